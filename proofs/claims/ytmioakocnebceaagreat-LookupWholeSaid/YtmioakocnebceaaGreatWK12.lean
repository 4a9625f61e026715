/- Mini: Needed by lookupWhole_walk, part 12: texts put together by shake.py; no condition. -/
import Derived.Test.YtmioakocnebceaaGreatWK11
import Derived.Test.YtmioakocnebceaaGreatWK9
import Derived.Test.YtmioakocnebceaaGreatWK10
import Derived.BigRegion
import Derived.Deep.RegionHeld3
import Derived.Test.YtmioakocnebceaaGreatWK3
import Derived.Test.YtmioakocnebceaaGreatWK6
import Derived.Test.YtmioakocnebceaaGreatWK4
import Derived.Test.YtmioakocnebceaaGreatWK5
import Derived.Test.YtmioakocnebceaaGreatWK8
set_option linter.unusedVariables false
set_option linter.unusedSimpArgs false
set_option maxRecDepth 100000
set_option maxHeartbeats 6400000
namespace Go.Proofs.YtmioakocnebceaaGreat
open Go.RowKit Go.Bs Go.Maps
structure CtI(w:World)(g gx:Nat)(P:List UInt8)(a:Option Addr)(s:Rs)(W:World):Prop where
 rd:RdAt W g P a s
 fb:Blk W w.heap.size 31 #[.int .i64 0,.int .i64 0]
 lb:Blk W gx 31 #[.int .i64 0,.int .i64 0]
 bl:Below w.heap.size w W
 lx:w.heap.size<gx
 lg:gx<g
section
variable {w W W':World} {g gx:Nat} {P:List UInt8} {a:Option Addr} {s s':Rs}
theorem CtI.later(h:CtI w g gx P a s W)(hb:Below W.heap.size W W'):CtI w g gx P a s W':=⟨h.rd.later hb,h.fb.later hb,h.lb.later hb,below_then hb h.bl,h.lx,h.lg⟩
theorem CtI.step(h:CtI w g gx P a s W)(k:RdStep W g P a s' W'):CtI w g gx P a s' W':=by
 have h1:=h.lx
 have h2:=h.lg
 exact⟨k.1,h.fb.tch k.2 (by omega),h.lb.tch k.2 (by omega),h.bl.trans (k.2.to_below h.bl.size fun b hb e=>by omega),h1,h2⟩
end
theorem content_marks(w:World)(D:List UInt8)(a:Option Addr)(n c:Nat)(hl:rBytes.r (·<w.heap.size) w [.slice a n c] D)(hD:D.length≤1000000000):
  Calls Tryz.prog 230 #[.slice a n c,.int .u8 2,.func (Fn.func 231) #[] #[]] w fun r w'=>∃v,r=.returned (.tuple #[v,.int .i64 ((idxC D).2.1:Int),.agg #[.int .i64 (idxC D).2.2.1,.int .i64 (idxC D).2.2.2]])∧rMarks.r (fun q=>w.heap.size≤q∧q<w'.heap.size) w' [v] (idxC D).1∧Below w.heap.size w w':=by
 obtain⟨RES,hRES⟩:∃RES,RES=idxC D:=⟨_,rfl⟩
 rw[←hRES]
 unfold idxC cont at hRES
 dsimp only at hRES
 have HFG:=hid (fun (W:World) (hW:Below w.heap.size w W)=>frame_get W D a n c (lift hl hW) hD 2097152 (by decide))
 have hfit:=Rs.frame_fit (B:=D) (Rs.zero_fit D.length) 2097152
 have hfc:=fun (P:List UInt8) (t:Rs) (h:(⟨0,0,0⟩:Rs).frame D 2097152=(t,P)) (hk:t.k=0)=>Rs.frame_canon (Rs.zero_fit D.length) h hk
 unfold getR at HFG
 generalize (⟨0,0,0⟩:Rs).frame D 2097152=F at*
 obtain⟨s1,P⟩:=F
 dsimp only at*
 have hfc:=hfc P s1 rfl
 have hsp:=hfit.ok.le
 have hsf:=hfit.inn
 unfold Rs.inn at hsf
 have hz0:w.heap.size<(w.alloc (.cells #[.int .i64 0,.int .i64 0] 31)).heap.size:=by simp
 have hb0:Below w.heap.size w (w.alloc (.cells #[.int .i64 0,.int .i64 0] 31)):=by (repeat (first | with_reducible exact Below.refl _ _ | with_reducible assumption | (with_reducible refine below_alloc ?_ _) | (with_reducible refine Below.setCell ?_ (by first | omega | (simp;done) | (simp;omega)) _) | (with_reducible refine Below.drew ?_) | (with_reducible refine below_drewN ?_ _) | (refine below_then (by with_reducible assumption) ?_)))
 have HF0:=hid (show Blk (w.alloc (.cells #[.int .i64 0,.int .i64 0] 31)) w.heap.size 31 #[.int .i64 0,.int .i64 0] by (repeat (first | assumption | exact Blk.newAt _ _ _ (by first | (simp;done) | (simp;omega)) | refine Blk.alloc ?_ _ | refine Blk.drew ?_ | refine Blk.drewN ?_ _ | refine Blk.far ?_ (by first | (simp;done) | (simp;omega)) _)))
 by_cases hk1:s1.k=0
 ·rw[if_pos hk1] at hRES HFG
  dsimp only at HFG
  have hPl:P.length≤2097152:=(hfc hk1).2.2.1
  have hk0:=kind_fit (P:=P) (k:=2)
  clear hfc hfit hk1 hl
  have HN:=hid (fun (W:World) (aP:Option Addr) (nP cP:Nat) (h:rBytes.r (·<W.heap.size) W [.slice aP nP cP] P)=>rd_new W P aP nP cP h)
  have HB:=hid (fun (W:World) (g:Nat) (aP:Option Addr) (hW:RdAt W g P aP ⟨0,0,0⟩)=>rd_byte W hW)
  generalize (⟨0,0,0⟩:Rs).byte P=U at*
  obtain⟨s2,y⟩:=U
  dsimp only at*
  have hy:=y.toNat_lt
  have HF1:=hid (fun (W:World) (g:Nat) (aP:Option Addr) (hW:RdAt W g P aP s2)=>rd_fail W hW 7 0 (by decide))
  have hyk:(y=2)=(y.toNat=2):=by
   apply propext
   constructor
   ·rintro rfl
    rfl
   ·intro h
    exact UInt8.toNat_inj.1 h
  simp only[hyk] at hRES hk0
  clear hyk
  generalize y.toNat=yn at*
  generalize hs3:(if yn=2 then s2 else s2.fail 7 0)=s3 at*
  have HS3:=hid hs3
  have HIR:=hid (fun (W:World) (g:Nat) (aP:Option Addr) (hW:RdAt W g P aP s3)=>index_read W hW (by omega))
  have hm4:=Rs.marks_fit (B:=P) hk0
  generalize s3.marks_ P=X at*
  obtain⟨s4,M⟩:=X
  dsimp only at*
  have HEND:=hid (fun (W:World) (g:Nat) (aP:Option Addr) (hW:RdAt W g P aP s4)=>rd_end W hW)
  have hm5:=Rs.fin_fit hm4
  generalize s4.fin P.length=s5 at*
  have hf5:=hm5.inn
  unfold Rs.inn at hf5
  have HFT:=hid (fun (W:World) (g:Nat) (aP:Option Addr) (hW:RdAt W g P aP s5)=>rd_fault W hW)
  clear hs3 hk0 hm4 hm5
  obtain⟨kr,fr,hkf⟩:∃kr fr:Int,kr=(if s5.k=0 then 0 else s5.k)∧fr=(if s5.k=0 then 0 else s5.f+((s1.p:Int)-4-(P.length:Int))):=⟨_,_,rfl,rfl⟩
  have HSH:Hid (∀W:World,Calls Tryz.prog 174 #[.agg #[.int .i64 s5.k,.int .i64 s5.f],.int .i64 ((s1.p:Int)-4-(P.length:Int))] W fun r w'=>r=.returned (.agg #[.int .i64 kr,.int .i64 fr])∧Below W.heap.size W w'):=hid fun W=>by
   by_cases h5:s5.k=0
   ·rw[if_pos h5,if_pos h5] at hkf
    rw[hkf.1,hkf.2,h5]
    exact fault_shift0 W s5.f _
   ·rw[if_neg h5,if_neg h5] at hkf
    rw[hkf.1,hkf.2]
    exact fault_shift W s5.k s5.f _ h5 (by omega) (by omega)
  have HRES:=hid hRES
  have HKF:=hid hkf
  clear hRES hkf
  go_enter Tryz.func230,Tryz.ntmps230
  go_upto_region 2 with (fail)
  generalize (w.alloc (.cells #[.int .i64 0,.int .i64 0] 31))=w0 at*
  go_wp2_with fail
  refine (HFG.out _ hb0).mono ?_
  rintro r w1 ⟨v1,rfl,hr1,hb1⟩
  obtain⟨a1,c1,hv1,hr1',_⟩:=sl_form hr1
  simp only[List.cons.injEq,and_true] at hv1
  subst hv1
  have hbx:Below w1.heap.size w1 (w1.alloc (.cells #[.int .i64 0,.int .i64 0] 31)):=by (repeat (first | with_reducible exact Below.refl _ _ | with_reducible assumption | (with_reducible refine below_alloc ?_ _) | (with_reducible refine Below.setCell ?_ (by first | omega | (simp;done) | (simp;omega)) _) | (with_reducible refine Below.drew ?_) | (with_reducible refine below_drewN ?_ _) | (refine below_then (by with_reducible assumption) ?_)))
  have HF2:=hid ((HF0.out.later hb1).later hbx)
  have HX2:Hid (Blk (w1.alloc (.cells #[.int .i64 0,.int .i64 0] 31)) w1.heap.size 31 #[.int .i64 0,.int .i64 0]):=hid (Blk.new _ _ _)
  have hb2:=below_then hbx (below_then hb1 hb0)
  have hgx:w.heap.size<w1.heap.size:=Nat.lt_of_lt_of_le hz0 hb1.size
  have HP2:=hid (lift (rBytes.mono hr1' (S':=(·<w1.heap.size)) fun q hq=>hq.2) hbx)
  clear hb1 hbx hb0 hz0 HF0 hr1 hr1' HFG
  obtain⟨x0,x1,x2,x3,lx⟩:=f_blk HX2.out
  go_upto_region 3 with (fail)
  generalize (w1.alloc (.cells #[.int .i64 0,.int .i64 0] 31))=w2 at*
  generalize w1.heap.size=gx at*
  have HG0:=hid (fun (W:World)=>fault_good W 0 0)
  rw[show decide ((0:Int)=0)=true from rfl] at HG0
  go_wp2_with fail
  refine (HG0.out _).mono ?_
  rintro r w3 ⟨rfl,hb3⟩
  have HF3:=hid (HF2.out.later hb3)
  have HX3:=hid (HX2.out.later hb3)
  have hbw3:=below_then hb3 hb2
  have HP3:=hid (lift HP2.out hb3)
  clear x0 x1 x2 x3 lx HG0 hb3 HF2 HX2 hb2 HP2
  go_wp2_with fail
  refine (HN.out _ a1 _ c1 HP3.out).mono ?_
  rintro r w4 ⟨rfl,hrd,hb4⟩
  have hI4:CtI w w3.heap.size gx P a1 ⟨0,0,0⟩ w4:=⟨hrd,(HF3.out.later hb4),(HX3.out.later hb4),below_then hb4 hbw3,hgx,HX3.out.lt⟩
  have HI4:=hid hI4
  generalize w3.heap.size=g at*
  clear hI4 hrd hb4 HF3 HX3 hbw3 HP3 HN
  go_wp2_with fail
  refine (HB.out _ _ _ HI4.out.rd).mono ?_
  rintro r w5 ⟨rfl,hst⟩
  have HI5:=hid (HI4.out.step hst)
  clear hst HI4 HB
  go_upto_if 32 with (fail)
  go_cut [] from 32 to 34 (fun V=>Hid (CtI w g gx P a1 s3 V))
  case first=>
   by_cases hyn:yn=2
   ·have hs3:=HS3.out
    rw[if_pos hyn] at hs3
    have d1:((yn:Int) !=(2:Int))=false:=by simp[hyn]
    subst hs3
    clear hyn
    go_wp2_with fail
    go_meet
    case rel=>exact HI5
   ·have hs3:=HS3.out
    rw[if_neg hyn] at hs3
    have d1:((yn:Int) !=(2:Int))=true:=by simp;omega
    rw[hs3] at HF1
    clear hyn
    go_wp2_with fail
    refine (HF1.out _ _ _ HI5.out.rd).mono ?_
    rintro r w6 ⟨rfl,hst⟩
    have HI6:=hid (HI5.out.step hst)
    go_wp2_with fail
    go_meet
    case rel=>exact HI6
  case rest=>
   have HI6:=hcut
   clear hcut HI5 HF1 HS3
   go_wp2_with fail
   refine (HIR.out _ _ _ HI6.out.rd).mono ?_
   rintro r w7 ⟨v7,rfl,hr7,hst⟩
   obtain⟨a7,c7,hv7,hr7',_⟩:=sl_form hr7
   simp only[List.cons.injEq,and_true] at hv7
   subst hv7
   have HI7:=hid (HI6.out.step hst)
   have HM7:=hid hr7'
   have hgw:g<wc.heap.size:=HI6.out.rd.blk.lt
   have hww:w.heap.size≤wc.heap.size:=HI6.out.bl.size
   clear hr7 hr7'
   clear hst HI6 HIR
   go_wp2_with fail
   refine (HEND.out _ _ _ HI7.out.rd).mono ?_
   rintro r w8 ⟨rfl,hst⟩
   have HI8:=hid (HI7.out.step hst)
   have hst8:=hst.2.size
   have HM8:=hid (rMarks.keep HM7.out fun q hq=>hst.2.block q hq.2 (by omega))
   clear hst HI7 HEND
   go_wp2_with fail
   refine (HFT.out _ _ _ HI8.out.rd).mono ?_
   rintro r w9 ⟨rfl,hb9⟩
   have HI9:=hid (HI8.out.later hb9)
   have hst9:=Nat.le_trans hst8 hb9.size
   have HM9:=hid (rMarks.keep HM8.out fun q hq=>hb9.block q (Nat.lt_of_lt_of_le hq.2 hst8))
   clear hb9 HI8 HFT
   go_wp2_with fail
   refine (HSH.out _).mono ?_
   rintro r w10 ⟨rfl,hb10⟩
   have hbx:Below w10.heap.size w10 (w10.alloc (.cells #[.int .i64 kr,.int .i64 fr] 31)):=by (repeat (first | with_reducible exact Below.refl _ _ | with_reducible assumption | (with_reducible refine below_alloc ?_ _) | (with_reducible refine Below.setCell ?_ (by first | omega | (simp;done) | (simp;omega)) _) | (with_reducible refine Below.drew ?_) | (with_reducible refine below_drewN ?_ _) | (refine below_then (by with_reducible assumption) ?_)))
   have HI11:=hid ((HI9.out.later hb10).later hbx)
   have HX11:Hid (Blk (w10.alloc (.cells #[.int .i64 kr,.int .i64 fr] 31)) w10.heap.size 31 #[.int .i64 kr,.int .i64 fr]):=hid (Blk.new _ _ _)
   have hgy:w.heap.size<w10.heap.size:=Nat.lt_of_lt_of_le (Nat.lt_trans HI9.out.lx (Nat.lt_trans HI9.out.lg HI9.out.rd.blk.lt)) hb10.size
   have hst11:w7.heap.size≤(w10.alloc (.cells #[.int .i64 kr,.int .i64 fr] 31)).heap.size:=Nat.le_trans hst9 (Nat.le_trans hb10.size hbx.size)
   have HM11:=hid (rMarks.keep HM9.out fun q hq=>(hb10.trans (hbx.mono hb10.size)).block q (Nat.lt_of_lt_of_le hq.2 hst9))
   clear hb10 hbx HI9 HSH
   obtain⟨x0,x1,x2,x3,lx⟩:=f_blk HX11.out
   go_upto_region 11 with (fail)
   generalize (w10.alloc (.cells #[.int .i64 kr,.int .i64 fr] 31))=w11 at*
   generalize w10.heap.size=gy at*
   have HGE:=hid (fun (W:World)=>fault_good W kr fr)
   by_cases h5:s5.k=0
   ·have hkf:=HKF.out
    rw[if_pos h5,if_pos h5] at hkf
    obtain⟨rfl,rfl⟩:=hkf
    rw[show decide ((0:Int)=0)=true from rfl] at HGE
    have hres:=HRES.out
    rw[if_pos h5] at hres
    subst hres
    clear h5 HKF HRES
    go_wp2_with fail
    refine (HGE.out _).mono ?_
    rintro r w12 ⟨rfl,hb12⟩
    have I12:=HI11.out.later hb12
    have M12:=rMarks.keep HM11.out fun q hq=>hb12.block q (Nat.lt_of_lt_of_le hq.2 hst11)
    have hzz:=hb12.size
    obtain⟨q0,q1,q2,q3,lq⟩:=f_blk I12.fb
    have hbl:=I12.bl
    have hlx:=I12.lx
    have hlg:=I12.lg
    clear I12 hb12 x0 x1 x2 x3 lx HI11 HX11 HGE
    go_wp2_with fail
    refine bodyPost_ret (v:=.tuple #[.slice a7 M.length c7,.int .i64 (s1.p:Int),.agg #[.int .i64 0,.int .i64 0]]) (by simp[results,Tryz.results230,go_sem,q0,q1,lq]) rfl ⟨_,rfl,?_,by (repeat (first | with_reducible exact Below.refl _ _ | with_reducible assumption | (with_reducible refine below_alloc ?_ _) | (with_reducible refine Below.setCell ?_ (by first | omega | (simp;done) | (simp;omega)) _) | (with_reducible refine Below.drew ?_) | (with_reducible refine below_drewN ?_ _) | (refine below_then (by with_reducible assumption) ?_)))⟩
    exact rMarks.mono (rMarks.keep M12 fun q hq=>by repeat (rw[Below.heap_setCell _ _ _ _ (by dsimp only;omega)])) fun q hq=>⟨by omega,by simp[World.setCell];omega⟩
   ·have hkf:=HKF.out
    rw[if_neg h5,if_neg h5] at hkf
    obtain⟨hk5,hf5'⟩:=hkf
    rw[hk5,decide_eq_false h5] at HGE
    rw[hk5] at HX11 x0
    have hres:=HRES.out
    rw[if_neg h5,←hf5'] at hres
    subst hres
    have HK5:=hid hk5
    clear h5 HKF HRES hk5 hf5'
    go_wp2_with fail
    refine (HGE.out _).mono ?_
    rintro r w12 ⟨rfl,hb12⟩
    have I12:=HI11.out.later hb12
    have X12:=HX11.out.later hb12
    obtain⟨q0,q1,q2,q3,lq⟩:=f_blk I12.fb
    have hbl:=I12.bl
    have hlx:=I12.lx
    clear x0 x1 x2 x3 lx
    obtain⟨x0,x1,x2,x3,lx⟩:=f_blk X12
    clear I12 X12 hb12 HI11 HX11 HGE
    go_wp2_with fail
    go_region
    all_goals go_wp2
    all_goals refine bodyPost_ret (v:=.tuple #[.slice none 0 0,.int .i64 0,.agg #[.int .i64 s5.k,.int .i64 fr]]) (by simp[results,Tryz.results230,go_sem,q0,q1,lq]) rfl ⟨_,rfl,rSl_mk (xs:=[]) rfl (Nat.le_refl _) (Nat.zero_le _) (.inl rfl),by (repeat (first | with_reducible exact Below.refl _ _ | with_reducible assumption | (with_reducible refine below_alloc ?_ _) | (with_reducible refine Below.setCell ?_ (by first | omega | (simp;done) | (simp;omega)) _) | (with_reducible refine Below.drew ?_) | (with_reducible refine below_drewN ?_ _) | (refine below_then (by with_reducible assumption) ?_)))⟩
 ·rw[if_neg hk1] at hRES HFG
  dsimp only at HFG
  subst hRES
  have HGD:=hid (fun (W:World)=>fault_good W s1.k s1.f)
  rw[decide_eq_false hk1] at HGD
  clear hfc hfit hk1 hl
  go_enter Tryz.func230,Tryz.ntmps230
  go_upto_region 2 with (fail)
  generalize (w.alloc (.cells #[.int .i64 0,.int .i64 0] 31))=w0 at*
  go_wp2_with fail
  refine (HFG.out _ hb0).mono ?_
  rintro r w1 ⟨v1,rfl,hr1,hb1⟩
  obtain⟨a1,c1,hv1,hr1',_⟩:=sl_form hr1
  simp only[List.cons.injEq,and_true] at hv1
  subst hv1
  have hbx:Below w1.heap.size w1 (w1.alloc (.cells #[.int .i64 s1.k,.int .i64 s1.f] 31)):=by (repeat (first | with_reducible exact Below.refl _ _ | with_reducible assumption | (with_reducible refine below_alloc ?_ _) | (with_reducible refine Below.setCell ?_ (by first | omega | (simp;done) | (simp;omega)) _) | (with_reducible refine Below.drew ?_) | (with_reducible refine below_drewN ?_ _) | (refine below_then (by with_reducible assumption) ?_)))
  have HF2:=hid ((HF0.out.later hb1).later hbx)
  have HX2:Hid (Blk (w1.alloc (.cells #[.int .i64 s1.k,.int .i64 s1.f] 31)) w1.heap.size 31 #[.int .i64 s1.k,.int .i64 s1.f]):=hid (Blk.new _ _ _)
  have hb2:=below_then hbx (below_then hb1 hb0)
  have hgx2:w.heap.size<w1.heap.size:=Nat.lt_of_lt_of_le hz0 hb1.size
  clear hb1 hbx hb0 HF0 hr1 hr1' HFG
  obtain⟨x0,x1,x2,x3,lx⟩:=f_blk HX2.out
  go_upto_region 3 with (fail)
  generalize (w1.alloc (.cells #[.int .i64 s1.k,.int .i64 s1.f] 31))=w2 at*
  go_wp2_with fail
  refine (HGD.out _).mono ?_
  rintro r w3 ⟨rfl,hb3⟩
  have HF3:=HF2.out.later hb3
  have HX3:=HX2.out.later hb3
  have hbw3:=below_then hb3 hb2
  clear x0 x1 x2 x3 lx
  obtain⟨x0,x1,x2,x3,lx⟩:=f_blk HX3
  obtain⟨q0,q1,q2,q3,lq⟩:=f_blk HF3
  clear HF3 HX3 hb3 hb2 HF2 HX2
  go_wp2_with fail
  go_region
  all_goals go_wp2
  all_goals refine bodyPost_ret (v:=.tuple #[.slice none 0 0,.int .i64 0,.agg #[.int .i64 s1.k,.int .i64 s1.f]]) (by simp[results,Tryz.results230,go_sem,q0,q1,lq]) rfl ⟨_,rfl,rSl_mk (xs:=[]) rfl (Nat.le_refl _) (Nat.zero_le _) (.inl rfl),by (repeat (first | with_reducible exact Below.refl _ _ | with_reducible assumption | (with_reducible refine below_alloc ?_ _) | (with_reducible refine Below.setCell ?_ (by first | omega | (simp;done) | (simp;omega)) _) | (with_reducible refine Below.drew ?_) | (with_reducible refine below_drewN ?_ _) | (refine below_then (by with_reducible assumption) ?_)))⟩
theorem rEntries_nil{S:Nat→Prop}{w:World}:rEntries.r S w [.slice none 0 0] []:=rSl_mk (xs:=[]) rfl (Nat.le_refl _) (Nat.zero_le _) (.inl rfl)
structure CbI(w:World)(g gx:Nat)(P:List UInt8)(a:Option Addr)(s:Rs)(W:World):Prop where
 rd:RdAt W g P a s
 zb:Blk W w.heap.size 60 #[.int .u64 0,.int .u64 0,.slice none 0 0]
 zn:Blk W (w.heap.size+1+1) 60 #[.int .u64 0,.int .u64 0,.slice none 0 0]
 fb:Blk W (w.heap.size+1) 31 #[.int .i64 0,.int .i64 0]
 lb:Blk W gx 31 #[.int .i64 0,.int .i64 0]
 bl:Below w.heap.size w W
 lx:(w.heap.size+1+1)<gx
 lg:gx<g
section
variable {w W W':World} {g gx:Nat} {P:List UInt8} {a:Option Addr} {s s':Rs}
theorem CbI.later(h:CbI w g gx P a s W)(hb:Below W.heap.size W W'):CbI w g gx P a s W':=⟨h.rd.later hb,h.zb.later hb,h.zn.later hb,h.fb.later hb,h.lb.later hb,below_then hb h.bl,h.lx,h.lg⟩
theorem CbI.step(h:CbI w g gx P a s W)(k:RdStep W g P a s' W'):CbI w g gx P a s' W':=by
 have h1:=h.lx
 have h2:=h.lg
 exact⟨k.1,h.zb.tch k.2 (by omega),h.zn.tch k.2 (by omega),h.fb.tch k.2 (by omega),h.lb.tch k.2 (by omega),h.bl.trans (k.2.to_below h.bl.size fun b hb e=>by omega),h1,h2⟩
end
theorem content_batch(w:World)(D:List UInt8)(a:Option Addr)(n c:Nat)(hl:rBytes.r (·<w.heap.size) w [.slice a n c] D)(hD:D.length≤1000000000):
  Calls Tryz.prog 235 #[.slice a n c,.int .u8 1,.func (Fn.func 72) #[] #[]] w fun r w'=>∃v,r=.returned (.tuple #[.agg #[.int .u64 (batC D).1.epoch,.int .u64 (batC D).1.base,v],.int .i64 ((batC D).2.1:Int),.agg #[.int .i64 (batC D).2.2.1,.int .i64 (batC D).2.2.2]])∧rEntries.r (fun q=>w.heap.size≤q∧q<w'.heap.size) w' [v] (batC D).1.entries∧Below w.heap.size w w':=by
 obtain⟨RES,hRES⟩:∃RES,RES=batC D:=⟨_,rfl⟩
 rw[←hRES]
 unfold batC cont at hRES
 dsimp only at hRES
 have HFG:=hid (fun (W:World) (hW:Below w.heap.size w W)=>frame_get W D a n c (lift hl hW) hD 2097152 (by decide))
 have hfit:=Rs.frame_fit (B:=D) (Rs.zero_fit D.length) 2097152
 have hfc:=fun (P:List UInt8) (t:Rs) (h:(⟨0,0,0⟩:Rs).frame D 2097152=(t,P)) (hk:t.k=0)=>Rs.frame_canon (Rs.zero_fit D.length) h hk
 unfold getR at HFG
 generalize (⟨0,0,0⟩:Rs).frame D 2097152=F at*
 obtain⟨s1,P⟩:=F
 dsimp only at*
 have hfc:=hfc P s1 rfl
 have hsp:=hfit.ok.le
 have hsf:=hfit.inn
 unfold Rs.inn at hsf
 have hz0:(w.heap.size+1+1)<(((w.alloc (.cells #[.int .u64 0,.int .u64 0,.slice none 0 0] 60)).alloc (.cells #[.int .i64 0,.int .i64 0] 31)).alloc (.cells #[.int .u64 0,.int .u64 0,.slice none 0 0] 60)).heap.size:=by simp
 have hb0:Below w.heap.size w (((w.alloc (.cells #[.int .u64 0,.int .u64 0,.slice none 0 0] 60)).alloc (.cells #[.int .i64 0,.int .i64 0] 31)).alloc (.cells #[.int .u64 0,.int .u64 0,.slice none 0 0] 60)):=by (repeat (first | with_reducible exact Below.refl _ _ | with_reducible assumption | (with_reducible refine below_alloc ?_ _) | (with_reducible refine Below.setCell ?_ (by first | omega | (simp;done) | (simp;omega)) _) | (with_reducible refine Below.drew ?_) | (with_reducible refine below_drewN ?_ _) | (refine below_then (by with_reducible assumption) ?_)))
 have HZ0:=hid (show Blk (((w.alloc (.cells #[.int .u64 0,.int .u64 0,.slice none 0 0] 60)).alloc (.cells #[.int .i64 0,.int .i64 0] 31)).alloc (.cells #[.int .u64 0,.int .u64 0,.slice none 0 0] 60)) w.heap.size 60 #[.int .u64 0,.int .u64 0,.slice none 0 0] by (repeat (first | assumption | exact Blk.newAt _ _ _ (by first | (simp;done) | (simp;omega)) | refine Blk.alloc ?_ _ | refine Blk.drew ?_ | refine Blk.drewN ?_ _ | refine Blk.far ?_ (by first | (simp;done) | (simp;omega)) _)))
 have HO0:=hid (show Blk (((w.alloc (.cells #[.int .u64 0,.int .u64 0,.slice none 0 0] 60)).alloc (.cells #[.int .i64 0,.int .i64 0] 31)).alloc (.cells #[.int .u64 0,.int .u64 0,.slice none 0 0] 60)) (w.heap.size+1+1) 60 #[.int .u64 0,.int .u64 0,.slice none 0 0] by (repeat (first | assumption | exact Blk.newAt _ _ _ (by first | (simp;done) | (simp;omega)) | refine Blk.alloc ?_ _ | refine Blk.drew ?_ | refine Blk.drewN ?_ _ | refine Blk.far ?_ (by first | (simp;done) | (simp;omega)) _)))
 have HF0:=hid (show Blk (((w.alloc (.cells #[.int .u64 0,.int .u64 0,.slice none 0 0] 60)).alloc (.cells #[.int .i64 0,.int .i64 0] 31)).alloc (.cells #[.int .u64 0,.int .u64 0,.slice none 0 0] 60)) (w.heap.size+1) 31 #[.int .i64 0,.int .i64 0] by (repeat (first | assumption | exact Blk.newAt _ _ _ (by first | (simp;done) | (simp;omega)) | refine Blk.alloc ?_ _ | refine Blk.drew ?_ | refine Blk.drewN ?_ _ | refine Blk.far ?_ (by first | (simp;done) | (simp;omega)) _)))
 by_cases hk1:s1.k=0
 ·rw[if_pos hk1] at hRES HFG
  dsimp only at HFG
  have hPl:P.length≤2097152:=(hfc hk1).2.2.1
  have hk0:=kind_fit (P:=P) (k:=1)
  clear hfc hfit hk1 hl
  have HN:=hid (fun (W:World) (aP:Option Addr) (nP cP:Nat) (h:rBytes.r (·<W.heap.size) W [.slice aP nP cP] P)=>rd_new W P aP nP cP h)
  have HB:=hid (fun (W:World) (g:Nat) (aP:Option Addr) (hW:RdAt W g P aP ⟨0,0,0⟩)=>rd_byte W hW)
  generalize (⟨0,0,0⟩:Rs).byte P=U at*
  obtain⟨s2,y⟩:=U
  dsimp only at*
  have hy:=y.toNat_lt
  have HF1:=hid (fun (W:World) (g:Nat) (aP:Option Addr) (hW:RdAt W g P aP s2)=>rd_fail W hW 7 0 (by decide))
  have hyk:(y=1)=(y.toNat=1):=by
   apply propext
   constructor
   ·rintro rfl
    rfl
   ·intro h
    exact UInt8.toNat_inj.1 h
  simp only[hyk] at hRES hk0
  clear hyk
  generalize y.toNat=yn at*
  generalize hs3:(if yn=1 then s2 else s2.fail 7 0)=s3 at*
  have HS3:=hid hs3
  have HIR:=hid (fun (W:World) (g:Nat) (aP:Option Addr) (hW:RdAt W g P aP s3)=>batch_read W hW (by omega))
  have hm4:=Rs.batch_fit (B:=P) (blk:=blkS P) (fun t ht=>blkS_fit ht) hk0
  generalize Rs.batch P (blkS P) s3=X at*
  obtain⟨s4,x,qx⟩:=X
  dsimp only at*
  have HEND:=hid (fun (W:World) (g:Nat) (aP:Option Addr) (hW:RdAt W g P aP s4)=>rd_end W hW)
  have hm5:=Rs.fin_fit hm4
  generalize s4.fin P.length=s5 at*
  have hf5:=hm5.inn
  unfold Rs.inn at hf5
  have HFT:=hid (fun (W:World) (g:Nat) (aP:Option Addr) (hW:RdAt W g P aP s5)=>rd_fault W hW)
  clear hs3 hk0 hm4 hm5
  obtain⟨kr,fr,hkf⟩:∃kr fr:Int,kr=(if s5.k=0 then 0 else s5.k)∧fr=(if s5.k=0 then 0 else s5.f+((s1.p:Int)-4-(P.length:Int))):=⟨_,_,rfl,rfl⟩
  have HSH:Hid (∀W:World,Calls Tryz.prog 174 #[.agg #[.int .i64 s5.k,.int .i64 s5.f],.int .i64 ((s1.p:Int)-4-(P.length:Int))] W fun r w'=>r=.returned (.agg #[.int .i64 kr,.int .i64 fr])∧Below W.heap.size W w'):=hid fun W=>by
   by_cases h5:s5.k=0
   ·rw[if_pos h5,if_pos h5] at hkf
    rw[hkf.1,hkf.2,h5]
    exact fault_shift0 W s5.f _
   ·rw[if_neg h5,if_neg h5] at hkf
    rw[hkf.1,hkf.2]
    exact fault_shift W s5.k s5.f _ h5 (by omega) (by omega)
  have HRES:=hid hRES
  have HKF:=hid hkf
  clear hRES hkf
  go_enter Tryz.func235,Tryz.ntmps235
  go_upto_region 2 with (fail)
  generalize (((w.alloc (.cells #[.int .u64 0,.int .u64 0,.slice none 0 0] 60)).alloc (.cells #[.int .i64 0,.int .i64 0] 31)).alloc (.cells #[.int .u64 0,.int .u64 0,.slice none 0 0] 60))=w0 at*
  go_wp2_with fail
  refine (HFG.out _ hb0).mono ?_
  rintro r w1 ⟨v1,rfl,hr1,hb1⟩
  obtain⟨a1,c1,hv1,hr1',_⟩:=sl_form hr1
  simp only[List.cons.injEq,and_true] at hv1
  subst hv1
  have hbx:Below w1.heap.size w1 (w1.alloc (.cells #[.int .i64 0,.int .i64 0] 31)):=by (repeat (first | with_reducible exact Below.refl _ _ | with_reducible assumption | (with_reducible refine below_alloc ?_ _) | (with_reducible refine Below.setCell ?_ (by first | omega | (simp;done) | (simp;omega)) _) | (with_reducible refine Below.drew ?_) | (with_reducible refine below_drewN ?_ _) | (refine below_then (by with_reducible assumption) ?_)))
  have HZ2:=hid ((HZ0.out.later hb1).later hbx)
  have HO2:=hid ((HO0.out.later hb1).later hbx)
  have HF2:=hid ((HF0.out.later hb1).later hbx)
  have HX2:Hid (Blk (w1.alloc (.cells #[.int .i64 0,.int .i64 0] 31)) w1.heap.size 31 #[.int .i64 0,.int .i64 0]):=hid (Blk.new _ _ _)
  have hb2:=below_then hbx (below_then hb1 hb0)
  have hgx:(w.heap.size+1+1)<w1.heap.size:=Nat.lt_of_lt_of_le hz0 hb1.size
  have HP2:=hid (lift (rBytes.mono hr1' (S':=(·<w1.heap.size)) fun q hq=>hq.2) hbx)
  clear hb1 hbx hb0 hz0 HF0 hr1 hr1' HFG HZ0 HO0
  obtain⟨x0,x1,x2,x3,lx⟩:=f_blk HX2.out
  go_upto_region 3 with (fail)
  generalize (w1.alloc (.cells #[.int .i64 0,.int .i64 0] 31))=w2 at*
  generalize w1.heap.size=gx at*
  have HG0:=hid (fun (W:World)=>fault_good W 0 0)
  rw[show decide ((0:Int)=0)=true from rfl] at HG0
  go_wp2_with fail
  refine (HG0.out _).mono ?_
  rintro r w3 ⟨rfl,hb3⟩
  have HZ3:=hid (HZ2.out.later hb3)
  have HO3:=hid (HO2.out.later hb3)
  have HF3:=hid (HF2.out.later hb3)
  have HX3:=hid (HX2.out.later hb3)
  have hbw3:=below_then hb3 hb2
  have HP3:=hid (lift HP2.out hb3)
  clear x0 x1 x2 x3 lx HG0 hb3 HF2 HX2 hb2 HP2 HZ2 HO2
  go_wp2_with fail
  refine (HN.out _ a1 _ c1 HP3.out).mono ?_
  rintro r w4 ⟨rfl,hrd,hb4⟩
  have hI4:CbI w w3.heap.size gx P a1 ⟨0,0,0⟩ w4:=⟨hrd,(HZ3.out.later hb4),(HO3.out.later hb4),(HF3.out.later hb4),(HX3.out.later hb4),below_then hb4 hbw3,hgx,HX3.out.lt⟩
  have HI4:=hid hI4
  generalize w3.heap.size=g at*
  clear hI4 hrd hb4 HF3 HX3 hbw3 HP3 HN HZ3 HO3
  go_wp2_with fail
  refine (HB.out _ _ _ HI4.out.rd).mono ?_
  rintro r w5 ⟨rfl,hst⟩
  have HI5:=hid (HI4.out.step hst)
  clear hst HI4 HB
  go_upto_if 32 with (fail)
  go_cut [] from 32 to 34 (fun V=>Hid (CbI w g gx P a1 s3 V))
  case first=>
   by_cases hyn:yn=1
   ·have hs3:=HS3.out
    rw[if_pos hyn] at hs3
    have d1:((yn:Int) !=(1:Int))=false:=by simp[hyn]
    subst hs3
    clear hyn
    go_wp2_with fail
    go_meet
    case rel=>exact HI5
   ·have hs3:=HS3.out
    rw[if_neg hyn] at hs3
    have d1:((yn:Int) !=(1:Int))=true:=by simp;omega
    rw[hs3] at HF1
    clear hyn
    go_wp2_with fail
    refine (HF1.out _ _ _ HI5.out.rd).mono ?_
    rintro r w6 ⟨rfl,hst⟩
    have HI6:=hid (HI5.out.step hst)
    go_wp2_with fail
    go_meet
    case rel=>exact HI6
  case rest=>
   have HI6:=hcut
   clear hcut HI5 HF1 HS3
   go_wp2_with fail
   refine (HIR.out _ _ _ HI6.out.rd).mono ?_
   rintro r w7 ⟨v7,rfl,hr7,hst⟩
   obtain⟨a7,c7,hv7,hr7',_⟩:=sl_form (entriesW_entries hr7)
   simp only[List.cons.injEq,and_true] at hv7
   subst hv7
   have HIq:=hid (HI6.out.step hst)
   have HMq:=hid (rEntries.mono hr7' (S':=fun q=>wc.heap.size≤q∧q<w7.heap.size) fun q hq=>⟨hq.1,hq.2⟩)
   have hgw:g<wc.heap.size:=HI6.out.rd.blk.lt
   have hww:w.heap.size≤wc.heap.size:=HI6.out.bl.size
   have hg7:g<w7.heap.size:=HIq.out.rd.blk.lt
   have hbq:Below w7.heap.size w7 (w7.alloc (.cells #[.int .u64 x.epoch,.int .u64 x.base,.slice a7 x.entries.length c7] 60)):=by (repeat (first | with_reducible exact Below.refl _ _ | with_reducible assumption | (with_reducible refine below_alloc ?_ _) | (with_reducible refine Below.setCell ?_ (by first | omega | (simp;done) | (simp;omega)) _) | (with_reducible refine Below.drew ?_) | (with_reducible refine below_drewN ?_ _) | (refine below_then (by with_reducible assumption) ?_)))
   have HI7:=hid (HIq.out.later hbq)
   have HV7:Hid (Blk (w7.alloc (.cells #[.int .u64 x.epoch,.int .u64 x.base,.slice a7 x.entries.length c7] 60)) w7.heap.size 60 #[.int .u64 x.epoch,.int .u64 x.base,.slice a7 x.entries.length c7]):=hid (Blk.new _ _ _)
   have HM7:=hid (rEntries.keep HMq.out fun q hq=>hbq.block q hq.2)
   have hsq:=hbq.size
   clear hr7 hr7' HIq HMq hbq
   clear hst HI6 HIR
   go_upto_region 9 with (fail)
   generalize (w7.alloc (.cells #[.int .u64 x.epoch,.int .u64 x.base,.slice a7 x.entries.length c7] 60))=w7' at*
   go_wp2_with fail
   refine (HEND.out _ _ _ HI7.out.rd).mono ?_
   rintro r w8 ⟨rfl,hst⟩
   have HI8:=hid (HI7.out.step hst)
   have hst8:w7'.heap.size≤w8.heap.size:=hst.2.size
   have HM8:=hid (rEntries.keep HM7.out fun q hq=>hst.2.block q (Nat.lt_of_lt_of_le hq.2 hsq) (by omega))
   have HV8:=hid (HV7.out.tch hst.2 (by omega))
   clear hst HI7 HEND
   go_wp2_with fail
   refine (HFT.out _ _ _ HI8.out.rd).mono ?_
   rintro r w9 ⟨rfl,hb9⟩
   have HI9:=hid (HI8.out.later hb9)
   have hst9:=Nat.le_trans hst8 hb9.size
   have HM9:=hid (rEntries.keep HM8.out fun q hq=>hb9.block q (Nat.lt_of_lt_of_le hq.2 (Nat.le_trans hsq hst8)))
   have HV9:=hid (HV8.out.later hb9)
   clear hb9 HI8 HFT
   go_wp2_with fail
   refine (HSH.out _).mono ?_
   rintro r w10 ⟨rfl,hb10⟩
   have hbx:Below w10.heap.size w10 (w10.alloc (.cells #[.int .i64 kr,.int .i64 fr] 31)):=by (repeat (first | with_reducible exact Below.refl _ _ | with_reducible assumption | (with_reducible refine below_alloc ?_ _) | (with_reducible refine Below.setCell ?_ (by first | omega | (simp;done) | (simp;omega)) _) | (with_reducible refine Below.drew ?_) | (with_reducible refine below_drewN ?_ _) | (refine below_then (by with_reducible assumption) ?_)))
   have HI11:=hid ((HI9.out.later hb10).later hbx)
   have HX11:Hid (Blk (w10.alloc (.cells #[.int .i64 kr,.int .i64 fr] 31)) w10.heap.size 31 #[.int .i64 kr,.int .i64 fr]):=hid (Blk.new _ _ _)
   have hgy:(w.heap.size+1+1)<w10.heap.size:=Nat.lt_of_lt_of_le (Nat.lt_trans HI9.out.lx (Nat.lt_trans HI9.out.lg HI9.out.rd.blk.lt)) hb10.size
   have hst11:w7'.heap.size≤(w10.alloc (.cells #[.int .i64 kr,.int .i64 fr] 31)).heap.size:=Nat.le_trans hst9 (Nat.le_trans hb10.size hbx.size)
   have HM11:=hid (rEntries.keep HM9.out fun q hq=>(hb10.trans (hbx.mono hb10.size)).block q (Nat.lt_of_lt_of_le hq.2 (Nat.le_trans hsq hst9)))
   have HV11:=hid ((HV9.out.later hb10).later hbx)
   clear hb10 hbx HI9 HSH
   obtain⟨x0,x1,x2,x3,lx⟩:=f_blk HX11.out
   go_upto_region 11 with (fail)
   generalize (w10.alloc (.cells #[.int .i64 kr,.int .i64 fr] 31))=w11 at*
   generalize w10.heap.size=gy at*
   have HGE:=hid (fun (W:World)=>fault_good W kr fr)
   by_cases h5:s5.k=0
   ·have hkf:=HKF.out
    rw[if_pos h5,if_pos h5] at hkf
    obtain⟨rfl,rfl⟩:=hkf
    rw[show decide ((0:Int)=0)=true from rfl] at HGE
    have hres:=HRES.out
    rw[if_pos h5] at hres
    subst hres
    clear h5 HKF HRES
    go_wp2_with fail
    refine (HGE.out _).mono ?_
    rintro r w12 ⟨rfl,hb12⟩
    have I12:=HI11.out.later hb12
    have M12:=rEntries.keep HM11.out fun q hq=>hb12.block q (Nat.lt_of_lt_of_le hq.2 (Nat.le_trans hsq hst11))
    have V12:=HV11.out.later hb12
    obtain⟨v0,v1,v2,lv⟩:=m3_blk V12
    have hzz:=hb12.size
    obtain⟨q0,q1,q2,q3,lq⟩:=f_blk I12.fb
    obtain⟨z0,z1,z2,lz⟩:=m3_blk I12.zb
    have g0:=I12.zb.free 0
    have g1:=I12.zb.free 1
    have g2:=I12.zb.free 2
    have hbl:=I12.bl
    have hlx:=I12.lx
    have hlg:=I12.lg
    clear I12 hb12 x0 x1 x2 x3 lx HI11 HX11 HGE
    go_wp2_with fail
    refine bodyPost_ret (v:=.tuple #[.agg #[.int .u64 x.epoch,.int .u64 x.base,.slice a7 x.entries.length c7],.int .i64 (s1.p:Int),.agg #[.int .i64 0,.int .i64 0]]) (by simp[results,Tryz.results235,go_sem,z0,z1,z2,lz,q0,q1,lq]) rfl ⟨_,rfl,?_,by (repeat (first | with_reducible exact Below.refl _ _ | with_reducible assumption | (with_reducible refine below_alloc ?_ _) | (with_reducible refine Below.setCell ?_ (by first | omega | (simp;done) | (simp;omega)) _) | (with_reducible refine Below.drew ?_) | (with_reducible refine below_drewN ?_ _) | (refine below_then (by with_reducible assumption) ?_)))⟩
    exact rEntries.mono (rEntries.keep M12 fun q hq=>by repeat (rw[Below.heap_setCell _ _ _ _ (by dsimp only;omega)])) fun q hq=>⟨by omega,by simp[World.setCell];omega⟩
   ·have hkf:=HKF.out
    rw[if_neg h5,if_neg h5] at hkf
    obtain⟨hk5,hf5'⟩:=hkf
    rw[hk5,decide_eq_false h5] at HGE
    rw[hk5] at HX11 x0
    have hres:=HRES.out
    rw[if_neg h5,←hf5'] at hres
    subst hres
    have HK5:=hid hk5
    clear h5 HKF HRES hk5 hf5'
    go_wp2_with fail
    refine (HGE.out _).mono ?_
    rintro r w12 ⟨rfl,hb12⟩
    have I12:=HI11.out.later hb12
    have X12:=HX11.out.later hb12
    obtain⟨q0,q1,q2,q3,lq⟩:=f_blk I12.fb
    obtain⟨z0,z1,z2,lz⟩:=m3_blk I12.zb
    have g0:=I12.zb.free 0
    have g1:=I12.zb.free 1
    have g2:=I12.zb.free 2
    have hbl:=I12.bl
    have hlx:=I12.lx
    clear x0 x1 x2 x3 lx
    obtain⟨x0,x1,x2,x3,lx⟩:=f_blk X12
    obtain⟨o0,o1,o2,lo⟩:=m3_blk I12.zn
    clear I12 X12 hb12 HI11 HX11 HGE
    go_wp2_with fail
    go_region
    all_goals go_wp2
    all_goals refine bodyPost_ret (v:=.tuple #[.agg #[.int .u64 0,.int .u64 0,.slice none 0 0],.int .i64 0,.agg #[.int .i64 s5.k,.int .i64 fr]]) (by simp[results,Tryz.results235,go_sem,z0,z1,z2,lz,q0,q1,lq]) rfl ⟨_,rfl,rEntries_nil,by (repeat (first | with_reducible exact Below.refl _ _ | with_reducible assumption | (with_reducible refine below_alloc ?_ _) | (with_reducible refine Below.setCell ?_ (by first | omega | (simp;done) | (simp;omega)) _) | (with_reducible refine Below.drew ?_) | (with_reducible refine below_drewN ?_ _) | (refine below_then (by with_reducible assumption) ?_)))⟩
 ·rw[if_neg hk1] at hRES HFG
  dsimp only at HFG
  subst hRES
  have HGD:=hid (fun (W:World)=>fault_good W s1.k s1.f)
  rw[decide_eq_false hk1] at HGD
  clear hfc hfit hk1 hl
  go_enter Tryz.func235,Tryz.ntmps235
  go_upto_region 2 with (fail)
  generalize (((w.alloc (.cells #[.int .u64 0,.int .u64 0,.slice none 0 0] 60)).alloc (.cells #[.int .i64 0,.int .i64 0] 31)).alloc (.cells #[.int .u64 0,.int .u64 0,.slice none 0 0] 60))=w0 at*
  go_wp2_with fail
  refine (HFG.out _ hb0).mono ?_
  rintro r w1 ⟨v1,rfl,hr1,hb1⟩
  obtain⟨a1,c1,hv1,hr1',_⟩:=sl_form hr1
  simp only[List.cons.injEq,and_true] at hv1
  subst hv1
  have hbx:Below w1.heap.size w1 (w1.alloc (.cells #[.int .i64 s1.k,.int .i64 s1.f] 31)):=by (repeat (first | with_reducible exact Below.refl _ _ | with_reducible assumption | (with_reducible refine below_alloc ?_ _) | (with_reducible refine Below.setCell ?_ (by first | omega | (simp;done) | (simp;omega)) _) | (with_reducible refine Below.drew ?_) | (with_reducible refine below_drewN ?_ _) | (refine below_then (by with_reducible assumption) ?_)))
  have HZ2:=hid ((HZ0.out.later hb1).later hbx)
  have HO2:=hid ((HO0.out.later hb1).later hbx)
  have HF2:=hid ((HF0.out.later hb1).later hbx)
  have HX2:Hid (Blk (w1.alloc (.cells #[.int .i64 s1.k,.int .i64 s1.f] 31)) w1.heap.size 31 #[.int .i64 s1.k,.int .i64 s1.f]):=hid (Blk.new _ _ _)
  have hb2:=below_then hbx (below_then hb1 hb0)
  have hgx2:(w.heap.size+1+1)<w1.heap.size:=Nat.lt_of_lt_of_le hz0 hb1.size
  clear hb1 hbx hb0 HF0 hr1 hr1' HFG HZ0 HO0
  obtain⟨x0,x1,x2,x3,lx⟩:=f_blk HX2.out
  go_upto_region 3 with (fail)
  generalize (w1.alloc (.cells #[.int .i64 s1.k,.int .i64 s1.f] 31))=w2 at*
  go_wp2_with fail
  refine (HGD.out _).mono ?_
  rintro r w3 ⟨rfl,hb3⟩
  have HZ3:=hid (HZ2.out.later hb3)
  have HO3:=hid (HO2.out.later hb3)
  have HF3:=HF2.out.later hb3
  have HX3:=HX2.out.later hb3
  have hbw3:=below_then hb3 hb2
  clear x0 x1 x2 x3 lx
  obtain⟨x0,x1,x2,x3,lx⟩:=f_blk HX3
  obtain⟨q0,q1,q2,q3,lq⟩:=f_blk HF3
  obtain⟨z0,z1,z2,lz⟩:=m3_blk HZ3.out
  obtain⟨o0,o1,o2,lo⟩:=m3_blk HO3.out
  have g0:=HZ3.out.free 0
  have g1:=HZ3.out.free 1
  have g2:=HZ3.out.free 2
  clear HF3 HX3 hb3 hb2 HF2 HX2 HZ2 HO2
  go_wp2_with fail
  go_region
  all_goals go_wp2
  all_goals refine bodyPost_ret (v:=.tuple #[.agg #[.int .u64 0,.int .u64 0,.slice none 0 0],.int .i64 0,.agg #[.int .i64 s1.k,.int .i64 s1.f]]) (by simp[results,Tryz.results235,go_sem,z0,z1,z2,lz,q0,q1,lq]) rfl ⟨_,rfl,rEntries_nil,by (repeat (first | with_reducible exact Below.refl _ _ | with_reducible assumption | (with_reducible refine below_alloc ?_ _) | (with_reducible refine Below.setCell ?_ (by first | omega | (simp;done) | (simp;omega)) _) | (with_reducible refine Below.drew ?_) | (with_reducible refine below_drewN ?_ _) | (refine below_then (by with_reducible assumption) ?_)))⟩
theorem drop_len{A D:List UInt8}{n:Nat}(h:n=A.length):(A++D).drop n=D:=by
 subst h
 simp
theorem take_len{A D:List UInt8}{n:Nat}(h:n=A.length):(A++D).take n=A:=by
 subst h
 simp
theorem trailN_put{A:List UInt8}{n:Nat}(hn:n≤A.length)(h32:n<4294967296):trailN (A++trailB n)=(n,0,0):=by
 have hl:(A++trailB n).length=A.length+12:=by rw[List.length_append,trailB_len]
 have e1:(A++trailB n).drop (A.length+12-4)=[76,79,72,84]:=by
  unfold trailB
  rw[←List.append_assoc,←List.append_assoc]
  exact drop_len (by simp[fixedB_len])
 have e2:((A++trailB n).drop (A.length+12-8)).take 4=fixedB 4 (crcSum (fixedB 4 n)):=by
  unfold trailB
  rw[←List.append_assoc,drop_len (by simp[fixedB_len])]
  exact take_len (by simp[fixedB_len])
 have e3:((A++trailB n).drop (A.length+12-12)).take 4=fixedB 4 n:=by
  unfold trailB
  rw[drop_len (by simp)]
  exact take_len (by simp[fixedB_len])
 have f1:fixN (fixedB 4 (crcSum (fixedB 4 n)))=crcSum (fixedB 4 n):=by
  rw[fixN_fixedB]
  have:=crcSum_lt (fixedB 4 n)
  omega
 have f2:fixN (fixedB 4 n)=n:=by
  rw[fixN_fixedB]
  omega
 unfold trailN
 rw[hl,e1,e2,e3,f1,f2,if_neg (by omega),if_pos rfl,if_pos rfl,if_pos (by omega)]
theorem footF_put{A:List UInt8}{f:FootD}(hf:FootR f):footF (A++footB f)=(f,A.length,0,0):=by
 have hle:=footP_len f
 have hfl:(frameB (footP f)).length≤100:=by
  have:=varB_len (footP f).length
  rw[frameB_len,blobB_len]
  omega
 have hF:(⟨0,0,0⟩:Rs).frame (frameB (footP f)) 2097152=(⟨0+(frameB (footP f)).length,0,0⟩,footP f):=Rs.frame_put (rest:=[]) (by simp) (Nat.zero_le _) (by omega)
 have hrd:=footRd_put hf
 unfold footB
 generalize frameB (footP f)=Q at*
 generalize footP f=P at*
 rw[←List.append_assoc]
 have hT:=trailN_put (A:=A++Q) (n:=Q.length) (by rw[List.length_append];exact Nat.le_add_left _ _) (Nat.lt_of_le_of_lt hfl (by decide))
 have hl:(A++Q++trailB Q.length).length=A.length+Q.length+12:=by rw[List.length_append,List.length_append,trailB_len]
 have e1:(A++Q++trailB Q.length).take (A.length+Q.length+12-12)=A++Q:=take_len (by rw[List.length_append];rfl)
 have e2:A.length+Q.length+12-12-Q.length=A.length:=by
  rw[Nat.add_sub_cancel,Nat.add_sub_cancel]
 unfold footF
 rw[hT]
 dsimp only
 rw[if_pos rfl,hl,e1,drop_len e2,hF]
 dsimp only
 rw[if_pos rfl,Nat.zero_add,if_neg (Nat.lt_irrefl _),hrd]
 dsimp only
 rw[if_pos rfl,e2]
theorem idxC_put{M:List MarkD}(hM:marksR M=true):idxC (recB 2 (indexB M))=(M,(recB 2 (indexB M)).length,0,0):=by
 have hle:=indexB_len hM
 have hF:(⟨0,0,0⟩:Rs).frame (recB 2 (indexB M)) 2097152=(⟨0+(recB 2 (indexB M)).length,0,0⟩,2::indexB M):=Rs.frame_put (rest:=[]) (by simp[recB]) (Nat.zero_le _) (by simp;omega)
 have hb:(⟨0,0,0⟩:Rs).byte (2::indexB M)=(⟨1,0,0⟩,2):=Rs.byte_pre (rest:=indexB M) (by simp) (Nat.zero_le _)
 have hB:(⟨1,0,0⟩:Rs).marks_ (2::indexB M)=(⟨1+(indexB M).length,0,0⟩,M):=Rs.marks_put (rest:=[]) hM (by simp) (by simp)
 have hfin:(⟨1+(indexB M).length,0,0⟩:Rs).fin (2::indexB M).length=⟨1+(indexB M).length,0,0⟩:=by
  unfold Rs.fin
  rw[if_neg (by simp;omega)]
 unfold idxC cont
 rw[hF]
 dsimp only
 rw[if_pos rfl,hb]
 dsimp only
 rw[if_pos rfl,hB]
 dsimp only
 rw[hfin]
 dsimp only
 rw[if_pos rfl,Nat.zero_add]
theorem fnd_put{ep:Int}{l:List Batch}(hR:segR ⟨ep,l⟩=true)(hN:∀b∈l,batchN b):
  fnd (segB ep l)=(⟨segF ep l,(segB ep l).length-(footB (segF ep l)).length,marksT (headHB 3 ep.toNat 0).length l⟩,0,0):=by
 have hFR:=segF_right hR hN
 obtain⟨hMR,_⟩:=segW_right hR hN
 obtain⟨e1,e2,e3⟩:=segB_eq ep l
 rw[e3] at hMR
 generalize segF ep l=F at*
 generalize marksT (headHB 3 ep.toNat 0).length l=M at*
 have hB:segB ep l=(headHB 3 ep.toNat 0++recsB l++recB 2 (indexB M))++footB F:=by
  rw[e1]
  simp only[List.append_assoc]
 have hat:F.at_=((headHB 3 ep.toNat 0++recsB l).length:Int):=by
  rw[e2,List.length_append]
  rfl
 have hsz:F.size=((recB 2 (indexB M)).length:Int):=by
  rw[e2]
  rfl
 have hself:F=footM F.ep M F.at_ F.size:=by
  have h:=e2
  rw[h]
  rfl
 rw[hB]
 generalize headHB 3 ep.toNat 0++recsB l=A at*
 have hT:((A++recB 2 (indexB M)++footB F).take (F.at_+F.size).toNat).drop F.at_.toNat=recB 2 (indexB M):=by
  rw[hat,hsz,take_len (by rw[List.length_append];omega),drop_len (by omega)]
 have hq:=footF_put (A:=A++recB 2 (indexB M)) hFR
 unfold fnd
 rw[hq]
 dsimp only
 rw[if_pos rfl,if_neg (by rw[hat,hsz,List.length_append];omega),hT,idxC_put hMR]
 unfold fndC
 dsimp only
 rw[if_pos rfl,if_neg (by omega),if_pos hself,show (A++recB 2 (indexB M)++footB F).length-(footB F).length=(A++recB 2 (indexB M)).length by rw[List.length_append];exact Nat.add_sub_cancel ..]
end Go.Proofs.YtmioakocnebceaaGreat
namespace Go.Bs
theorem markD_eq{x y:MarkD}:x=y↔x.pos=y.pos∧x.count=y.count∧x.at_=y.at_:=by
 cases x;cases y;simp
end Go.Bs
namespace Go.Proofs.YtmioakocnebceaaGreat
open Go.RowKit Go.Bs Go.Maps
instance instMarkEq:DecidableEq MarkD:=fun x y=>decidable_of_iff _ markD_eq.symm
open Go.RowKit Go.Bs
theorem peek_numbered(e b:Int)(a:Option Addr)(n c:Nat)(w:World)(h0:0≤b)(h:b+n≤18446744073709551615)(hn:n≤9223372036854775807):
  Calls Tryz.prog 236 #[.agg #[.int .u64 e,.int .u64 b,.slice a n c]] w fun r w'=>r=.returned (.bool true)∧Below w.heap.size w w':=by
 have d1:decide (b≤b+(n:Int))=true:=by simp;omega
 have F:Below w.heap.size w (w.alloc (.cells #[.int .u64 e,.int .u64 b,.slice a n c] 60)):=by (repeat (first | exact Below.refl _ _ | assumption | (refine below_alloc ?_ _) | (refine Below.setCell ?_ (by first | omega | (simp;done) | (simp;omega)) _) | (refine Below.drew ?_) | (refine below_drewN ?_ _) | (refine below_then (by assumption) ?_)))
 have Y0:=fun s:Later (w.alloc (.cells #[.int .u64 e,.int .u64 b,.slice a n c] 60))=>s.cell (v:=.int .u64 e) (b:=w.heap.size) (o:=0) (by go_simp)
 have Y1:=fun s:Later (w.alloc (.cells #[.int .u64 e,.int .u64 b,.slice a n c] 60))=>s.cell (v:=.int .u64 b) (b:=w.heap.size) (o:=1) (by go_simp)
 have Y2:=fun s:Later (w.alloc (.cells #[.int .u64 e,.int .u64 b,.slice a n c] 60))=>s.cell (v:=.slice a n c) (b:=w.heap.size) (o:=2) (by go_simp)
 have FF:=hid F;clear F
 have hE:=fun s:Later (w.alloc (.cells #[.int .u64 e,.int .u64 b,.slice a n c] 60))=>batch_end e b a n c s.at_ h0 h hn
 have HE:=hid hE;clear hE
 go_enter Tryz.func236,Tryz.ntmps236
 go_wp2_with fail
 refine wp_region_later (by kernel_rfl) (by kernel_rfl) ?_
 repeat (go_big_quiet_step (((go_at_call 237;exact later_of (HE.out _)))))
 refine wpQuiet_nil ?_
 rintro W5 ⟨⟨W5',hb5⟩,rfl⟩
 go_wp2
 go_ret
 have FO:=FF.out
 exact⟨rfl,by (repeat (first | exact Below.refl _ _ | assumption | (refine below_alloc ?_ _) | (refine Below.setCell ?_ (by first | omega | (simp;done) | (simp;omega)) _) | (refine Below.drew ?_) | (refine below_drewN ?_ _) | (refine below_then (by assumption) ?_)))⟩
def findB(b:Batch)(pos:Int):Option Entry:=if b.base≤pos then b.entries[(pos-b.base).toNat]? else none
def EntRet(x:Option Entry)(w:World)(r:Ending)(w':World):Prop:=
 match x with
 | none=>r=.returned (.tuple #[.agg #[.slice none 0 0,.slice none 0 0],.bool false])∧Below w.heap.size w w'
 | some e=>∃v1 v2,r=.returned (.tuple #[.agg #[v1,v2],.bool true])∧rLinks.r (Fresh w w') w' [v1] e.links∧rBytes.r (Fresh w w') w' [v2] e.data∧Below w.heap.size w w'
theorem peek_at(x:Batch)(pos:Int)(a:Option Addr)(n c:Nat)(w:World)(h0:0≤x.base)(h:x.base+x.entries.length≤4611686018427387904)(hp:0≤pos∧pos≤18446744073709551615)(hl:rEntries.r (·<w.heap.size) w [.slice a n c] x.entries)(hm:∀z∈x.entries,Mild z):
  Calls Tryz.prog 122 #[.agg #[.int .u64 x.epoch,.int .u64 x.base,.slice a n c],.int .u64 pos] w (EntRet (findB x pos) w):=by
 obtain⟨rfl,hm1,_,_⟩:=sl_len hl
 obtain⟨ep,bs,l⟩:=x
 dsimp only at*
 have HL:=hid hl;clear hl
 have HM:=hid hm;clear hm
 have hN:=fun W=>peek_numbered ep bs a l.length c W h0 (by omega) hm1
 have HN:=hid hN;clear hN
 have hE:=fun W=>batch_end ep bs a l.length c W h0 (by omega) hm1
 have HE:=hid hE;clear hE
 by_cases h1:bs≤pos
 ·have d1:decide (pos<bs)=false:=by simp;omega
  by_cases h2:pos<bs+l.length
  ·have d2:decide (bs+(l.length:Int)≤pos)=false:=by simp;omega
   obtain⟨k,hk⟩:∃k:Nat,pos-bs=k:=⟨(pos-bs).toNat,by omega⟩
   have hkl:k<l.length:=by omega
   have hpos:pos=bs+k:=by omega
   have HF:Hid (findB ⟨ep,bs,l⟩ pos=some l[k]):=hid (by simp only[findB,if_pos h1];rw[hk];simp[hkl])
   have HMk:=HM.out _ (List.getElem_mem hkl)
   obtain⟨m1,m2,m3⟩:=HMk
   obtain⟨b,o,hA,hbb,a1,c1,a2,c2,xx0,xx1,hd1,hd2⟩:=entry_at HL.out hkl
   subst hA
   have HD1:=hid hd1;have HD2:=hid hd2;clear hd1 hd2
   generalize l[k]=z at*
   have M3:=hid m3;clear m3
   subst hpos
   have e1:bs+(k:Int)-bs=k:=by omega
   clear hk
   go_enter Tryz.func122,Tryz.ntmps122
   go_wp2_with fail
   refine (HN.out _).mono ?_
   rintro e' w1 ⟨rfl,hb1⟩
   have hz:w.heap.size+1<w1.heap.size:=by have:=hb1.size;simp at this;omega
   have hz0:w.heap.size<w1.heap.size:=by omega
   have p0:w1.cell? ⟨w.heap.size,0,none⟩=some (.int .u64 ep):=(Later.mk w1 hb1).cell (by go_simp)
   have p1:w1.cell? ⟨w.heap.size,1,none⟩=some (.int .u64 bs):=(Later.mk w1 hb1).cell (by go_simp)
   have p2:w1.cell? ⟨w.heap.size,2,none⟩=some (.slice (some ⟨b,o,none⟩) l.length c):=(Later.mk w1 hb1).cell (by go_simp)
   have r0:Blk w1 (w.heap.size+1) 84 #[.slice none 0 0,.slice none 0 0]:=Blk.later (by (repeat (first | assumption | exact Blk.newAt _ _ _ (by first | (simp;done) | (simp;omega)) | refine Blk.alloc ?_ _ | refine Blk.drew ?_ | refine Blk.drewN ?_ _ | refine Blk.far ?_ (by first | (simp;done) | (simp;omega)) _))) hb1
   have RB:=hid r0;clear r0
   have hbw:Below w.heap.size w w1:=by (repeat (first | exact Below.refl _ _ | assumption | (refine below_alloc ?_ _) | (refine Below.setCell ?_ (by first | omega | (simp;done) | (simp;omega)) _) | (refine Below.drew ?_) | (refine below_drewN ?_ _) | (refine below_then (by assumption) ?_)))
   go_wp2_with fail
   refine (HE.out _).mono ?_
   rintro e' w2 ⟨rfl,hb2⟩
   have s1:w2.cell? ⟨w.heap.size,1,none⟩=some (.int .u64 bs):=(Later.mk w2 hb2).cell p1
   have s2:w2.cell? ⟨w.heap.size,2,none⟩=some (.slice (some ⟨b,o,none⟩) l.length c):=(Later.mk w2 hb2).cell p2
   have hbw2:Below w.heap.size w w2:=below_then hb2 hbw
   have X0:=(hbw2.cell (p:=⟨b,o+k*2,none⟩) hbb).trans xx0
   have X1:=(hbw2.cell (p:=⟨b,o+k*2+1,none⟩) hbb).trans xx1
   have hz2:w.heap.size<w2.heap.size:=by have:=hb2.size;omega
   go_wp2_with fail
   refine (entry_copy z _ _ _ _ _ _ _ (lift HD1.out hbw2) (lift HD2.out hbw2) m1 m2 M3.out).mono ?_
   rintro r w3 ⟨v1,v2,rfl,hr1,hr2,hb3⟩
   obtain⟨a3,c3,hv3,_,_⟩:=sl_form hr1
   simp only[List.cons.injEq,and_true] at hv3
   subst hv3
   obtain⟨a4,c4,hv4,_,_⟩:=sl_form hr2
   simp only[List.cons.injEq,and_true] at hv4
   subst hv4
   have HR1:=hid hr1;have HR2:=hid hr2;clear hr1 hr2
   have R3:=RB.out.later (below_then hb3 hb2)
   have c0:w3.cell? ⟨w.heap.size+1,0,none⟩=some (.slice none 0 0):=R3.cell 0
   have c1':w3.cell? ⟨w.heap.size+1,1,none⟩=some (.slice none 0 0):=R3.cell 1
   have f0:=R3.free 0
   have f1:=R3.free 1
   clear R3
   have hzz:w.heap.size+1<w3.heap.size:=by have:=hb3.size;have:=hb2.size;omega
   have hbf:Below w.heap.size w w3:=below_then hb3 hbw2
   go_wp2
   refine bodyPost_ret (v:=.tuple #[.agg #[.slice a3 z.links.length c3,.slice a4 z.data.length c4],.bool true]) (by simp[results,Tryz.results122,go_sem,c0,c1']) rfl ?_
   unfold EntRet
   rw[HF.out]
   have hs2:=hb2.size
   refine⟨_,_,rfl,?_,?_,by (repeat (first | exact Below.refl _ _ | assumption | (refine below_alloc ?_ _) | (refine Below.setCell ?_ (by first | omega | (simp;done) | (simp;omega)) _) | (refine Below.drew ?_) | (refine below_drewN ?_ _) | (refine below_then (by assumption) ?_)))⟩
   ·refine rLinks.mono (rLinks.keep HR1.out fun b hb=> ?_) fun b hb=>⟨by have:=hb.1;omega,by have:=hb.2;simp;omega⟩
    have hb':=hb.1
    repeat rw[Below.heap_setCell _ _ _ _ (by dsimp only;omega)]
   ·refine rBytes.mono (rBytes.keep HR2.out fun b hb=> ?_) fun b hb=>⟨by have:=hb.1;omega,by have:=hb.2;simp;omega⟩
    have hb':=hb.1
    repeat rw[Below.heap_setCell _ _ _ _ (by dsimp only;omega)]
  ·have d2:decide (bs+(l.length:Int)≤pos)=true:=by simp;omega
   have HF:Hid (findB ⟨ep,bs,l⟩ pos=none):=hid (by simp only[findB,if_pos h1];exact List.getElem?_eq_none (by omega))
   go_enter Tryz.func122,Tryz.ntmps122
   go_wp2_with fail
   refine (HN.out _).mono ?_
   rintro e' w1 ⟨rfl,hb1⟩
   have hz:w.heap.size+1<w1.heap.size:=by have:=hb1.size;simp at this;omega
   have hz0:w.heap.size<w1.heap.size:=by omega
   have p0:w1.cell? ⟨w.heap.size,0,none⟩=some (.int .u64 ep):=(Later.mk w1 hb1).cell (by go_simp)
   have p1:w1.cell? ⟨w.heap.size,1,none⟩=some (.int .u64 bs):=(Later.mk w1 hb1).cell (by go_simp)
   have p2:w1.cell? ⟨w.heap.size,2,none⟩=some (.slice a l.length c):=(Later.mk w1 hb1).cell (by go_simp)
   have r0:Blk w1 (w.heap.size+1) 84 #[.slice none 0 0,.slice none 0 0]:=Blk.later (by (repeat (first | assumption | exact Blk.newAt _ _ _ (by first | (simp;done) | (simp;omega)) | refine Blk.alloc ?_ _ | refine Blk.drew ?_ | refine Blk.drewN ?_ _ | refine Blk.far ?_ (by first | (simp;done) | (simp;omega)) _))) hb1
   have RB:=hid r0;clear r0
   have hbw:Below w.heap.size w w1:=by (repeat (first | exact Below.refl _ _ | assumption | (refine below_alloc ?_ _) | (refine Below.setCell ?_ (by first | omega | (simp;done) | (simp;omega)) _) | (refine Below.drew ?_) | (refine below_drewN ?_ _) | (refine below_then (by assumption) ?_)))
   go_wp2_with fail
   refine (HE.out _).mono ?_
   rintro e' w2 ⟨rfl,hb2⟩
   have R3:=RB.out.later hb2
   have c0:w2.cell? ⟨w.heap.size+1,0,none⟩=some (.slice none 0 0):=R3.cell 0
   have c1':w2.cell? ⟨w.heap.size+1,1,none⟩=some (.slice none 0 0):=R3.cell 1
   have f0:=R3.free 0
   have f1:=R3.free 1
   clear R3
   have hzz:w.heap.size+1<w2.heap.size:=by have:=hb2.size;omega
   have hbf:Below w.heap.size w w2:=below_then hb2 hbw
   go_wp2
   refine bodyPost_ret (v:=.tuple #[.agg #[.slice none 0 0,.slice none 0 0],.bool false]) (by simp[results,Tryz.results122,go_sem,c0,c1']) rfl ?_
   unfold EntRet
   rw[HF.out]
   exact⟨rfl,by (repeat (first | exact Below.refl _ _ | assumption | (refine below_alloc ?_ _) | (refine Below.setCell ?_ (by first | omega | (simp;done) | (simp;omega)) _) | (refine Below.drew ?_) | (refine below_drewN ?_ _) | (refine below_then (by assumption) ?_)))⟩
 ·have d1:decide (pos<bs)=true:=by simp;omega
  have HF:Hid (findB ⟨ep,bs,l⟩ pos=none):=hid (by simp only[findB,if_neg h1])
  go_enter Tryz.func122,Tryz.ntmps122
  go_wp2_with fail
  refine (HN.out _).mono ?_
  rintro e' w1 ⟨rfl,hb1⟩
  have hz:w.heap.size+1<w1.heap.size:=by have:=hb1.size;simp at this;omega
  have hz0:w.heap.size<w1.heap.size:=by omega
  have p1:w1.cell? ⟨w.heap.size,1,none⟩=some (.int .u64 bs):=(Later.mk w1 hb1).cell (by go_simp)
  have R3:Blk w1 (w.heap.size+1) 84 #[.slice none 0 0,.slice none 0 0]:=Blk.later (by (repeat (first | assumption | exact Blk.newAt _ _ _ (by first | (simp;done) | (simp;omega)) | refine Blk.alloc ?_ _ | refine Blk.drew ?_ | refine Blk.drewN ?_ _ | refine Blk.far ?_ (by first | (simp;done) | (simp;omega)) _))) hb1
  have c0:w1.cell? ⟨w.heap.size+1,0,none⟩=some (.slice none 0 0):=R3.cell 0
  have c1':w1.cell? ⟨w.heap.size+1,1,none⟩=some (.slice none 0 0):=R3.cell 1
  have f0:=R3.free 0
  have f1:=R3.free 1
  clear R3
  have hbf:Below w.heap.size w w1:=by (repeat (first | exact Below.refl _ _ | assumption | (refine below_alloc ?_ _) | (refine Below.setCell ?_ (by first | omega | (simp;done) | (simp;omega)) _) | (refine Below.drew ?_) | (refine below_drewN ?_ _) | (refine below_then (by assumption) ?_)))
  go_wp2
  refine bodyPost_ret (v:=.tuple #[.agg #[.slice none 0 0,.slice none 0 0],.bool false]) (by simp[results,Tryz.results122,go_sem,c0,c1']) rfl ?_
  unfold EntRet
  rw[HF.out]
  exact⟨rfl,by (repeat (first | exact Below.refl _ _ | assumption | (refine below_alloc ?_ _) | (refine Below.setCell ?_ (by first | omega | (simp;done) | (simp;omega)) _) | (refine Below.drew ?_) | (refine below_drewN ?_ _) | (refine below_then (by assumption) ?_)))⟩
def findS(l:List Batch)(pos:Int):Option Entry:=l.findSome? fun b=>findB b pos
theorem findS_step(l:List Batch)(pos:Int)(k:Nat)(h:k<l.length):findS (l.drop k) pos=(findB l[k] pos).or (findS (l.drop (k+1)) pos):=by
 unfold findS
 rw[List.drop_eq_getElem_cons h,List.findSome?_cons]
 cases findB l[k] pos<;>rfl
def fndM(l:List MarkD)(pos:Int):Option MarkD:=l.find? fun m=>decide (m.pos≤pos)&&decide (pos<m.pos+m.count)
def batAt(B:List UInt8)(m:MarkD)(e:Int):Batch × Int × Int:=
 if e≤m.at_ then (noBatch,3,m.at_)
 else
  let c:=batC ((B.take e.toNat).drop m.at_.toNat)
  if c.2.2.1=0 then (if c.1.base=m.pos∧(c.1.entries.length:Int)=m.count then (c.1,0,0) else (c.1,12,m.at_))
  else (c.1,c.2.2.1,c.2.2.2+m.at_)
def lkp(B:List UInt8)(pos:Int):Option Entry × Int × Int:=
 let q:=fnd B
 if q.2.1=0 then
  match fndM q.1.marks pos with
  | none=>(none,16,0)
  | some m=>
   let b:=batAt B m q.1.foot.at_
   if b.2.1=0 then (findB b.1 pos,0,0) else (none,b.2.1,b.2.2)
 else (none,q.2.1,q.2.2)
theorem findB_iff{b:Batch}{pos:Int}(h0:0≤b.base):(findB b pos).isSome=(decide (b.base≤pos)&&decide (pos<b.base+b.entries.length)):=by
 unfold findB
 by_cases h1:b.base≤pos
 ·rw[if_pos h1,decide_eq_true h1,Bool.true_and]
  by_cases h2:pos<b.base+b.entries.length
  ·rw[List.getElem?_eq_getElem (by omega),decide_eq_true h2]
   rfl
  ·rw[List.getElem?_eq_none (by omega),decide_eq_false h2]
   rfl
 ·rw[if_neg h1,decide_eq_false h1]
  rfl
theorem fndM_marks(pos:Int):∀(l:List Batch) (p:Nat),(∀b∈l,0≤b.base)→
  (fndM (marksT p l) pos=none∧findS l pos=none)∨(∃l1 b l2,l=l1++b::l2∧fndM (marksT p l) pos=some ⟨b.base,b.entries.length,((p+(recsB l1).length:Nat):Int)⟩∧findS l pos=findB b pos∧(findB b pos).isSome=true)
 | [],p,_=> .inl ⟨rfl,rfl⟩
 | b::t,p,h=>by
  have hb:=h b (List.mem_cons_self ..)
  have hi:=findB_iff (pos:=pos) hb
  have hM:fndM (marksT p (b::t)) pos=if (findB b pos).isSome=true then some ⟨b.base,b.entries.length,(p:Int)⟩ else fndM (marksT (p+(recB 1 (batchB b)).length) t) pos:=by
   rw[hi]
   show List.find? (fun m:MarkD=>decide (m.pos≤pos)&&decide (pos<m.pos+m.count)) (⟨b.base,b.entries.length,(p:Int)⟩::marksT (p+(recB 1 (batchB b)).length) t)=_
   rw[List.find?_cons]
   dsimp only
   cases (decide (b.base≤pos)&&decide (pos<b.base+(b.entries.length:Int)))
   ·rfl
   ·rfl
  have hS:findS (b::t) pos=(findB b pos).or (findS t pos):=by
   unfold findS
   rw[List.findSome?_cons]
   cases findB b pos<;>rfl
  rw[hM,hS]
  cases hf:findB b pos with
  | some e=>
   refine .inr ⟨[],b,t,rfl,?_,by rw[hf];rfl,by rw[hf];rfl⟩
   rw[show (recsB []).length=0 from rfl,Nat.add_zero]
   exact if_pos rfl
  | none=>
   rw[if_neg (by simp)]
   rcases fndM_marks pos t (p+(recB 1 (batchB b)).length) (fun x hx=>h x (List.mem_cons_of_mem _ hx)) with ⟨h1,h2⟩ | ⟨l1,x,l2,h1,h2,h3,h4⟩
   ·exact .inl ⟨h1,h2⟩
   ·refine .inr ⟨b::l1,x,l2,by rw[h1];rfl,?_,h3,h4⟩
    rw[h2,recsB_cons,List.length_append,Nat.add_assoc]
theorem batC_put{b:Batch}{rest:List UInt8}(hR:batchR b=true)(hN:batchN b):batC (recB 1 (batchB b)++rest)=(b,(recB 1 (batchB b)).length,0,0):=by
 have hle:=batchB_le hR
 have hF:(⟨0,0,0⟩:Rs).frame (recB 1 (batchB b)++rest) 2097152=(⟨0+(recB 1 (batchB b)).length,0,0⟩,1::batchB b):=Rs.frame_put (rest:=rest) (by rw[List.drop_zero];rfl) (Nat.zero_le _) (by simp;omega)
 have hb:(⟨0,0,0⟩:Rs).byte (1::batchB b)=(⟨1,0,0⟩,1):=Rs.byte_pre (rest:=batchB b) (by simp) (Nat.zero_le _)
 have hB:Rs.batch (1::batchB b) (blkS (1::batchB b)) ⟨1,0,0⟩=(⟨1+(batchB b).length,0,0⟩,b,true):=
  Rs.batch_put (rest:=[]) hR hN (by simp) (by simp) (fun q' h1 h2=>bS_p b hR _ _ q' h1 h2)
 have hfin:(⟨1+(batchB b).length,0,0⟩:Rs).fin (1::batchB b).length=⟨1+(batchB b).length,0,0⟩:=by
  unfold Rs.fin
  rw[if_neg (by simp;omega)]
 unfold batC cont
 rw[hF]
 dsimp only
 rw[if_pos rfl,hb]
 dsimp only
 rw[if_pos rfl,hB]
 dsimp only
 rw[hfin]
 dsimp only
 rw[if_pos rfl,Nat.zero_add]
theorem lkp_put{ep:Int}{l:List Batch}(hR:segR ⟨ep,l⟩=true)(hN:∀b∈l,batchN b)(pos:Int):
  lkp (segB ep l) pos=(findS l pos,if (findS l pos).isSome=true then 0 else 16,0):=by
 have hR':=(segR_facts hR).2.2
 obtain⟨e1,e2,e3⟩:=segB_eq ep l
 unfold lkp
 rw[fnd_put hR hN]
 dsimp only
 rw[if_pos rfl]
 rcases fndM_marks pos l (headHB 3 ep.toNat 0).length (fun b hb=>(hN b hb).2.1.1) with ⟨h1,h2⟩ | ⟨l1,b,l2,h1,h2,h3,h4⟩
 ·rw[h1,h2]
  rfl
 ·rw[h2,h3,h4]
  dsimp only
  have hbl:b∈l:=by rw[h1];simp
  have hre:recsB l=recsB l1++(recB 1 (batchB b)++recsB l2):=by
   rw[h1]
   unfold recsB
   simp
  have hat:(segF ep l).at_=(((headHB 3 ep.toNat 0).length+(recsB l).length:Nat):Int):=by
   rw[e2]
   rfl
  have hlt:(recsB l1).length+(recB 1 (batchB b)).length+(recsB l2).length=(recsB l).length:=by
   rw[hre,List.length_append,List.length_append]
   omega
  have hlow:=(recB_len 1 (batchB b)).2
  have hcut:((segB ep l).take ((segF ep l).at_).toNat).drop (((headHB 3 ep.toNat 0).length+(recsB l1).length:Nat):Int).toNat=recB 1 (batchB b)++recsB l2:=by
   rw[hat,e1,Int.toNat_natCast,Int.toNat_natCast,←List.append_assoc,take_len (by rw[List.length_append]),hre,←List.append_assoc,drop_len (by rw[List.length_append])]
  have hb:batAt (segB ep l) ⟨b.base,b.entries.length,(((headHB 3 ep.toNat 0).length+(recsB l1).length:Nat):Int)⟩ (segF ep l).at_=(b,0,0):=by
   unfold batAt
   dsimp only
   rw[hcut,batC_put (hR' b hbl) (hN b hbl)]
   dsimp only
   rw[if_neg (by rw[hat];omega),if_pos rfl,if_pos ⟨rfl,rfl⟩]
  rw[hb]
  rfl
def markV:Option MarkD→Array Value
 | none=>#[.int .u64 0,.int .i64 0,.int .i64 0]
 | some m=>#[.int .u64 m.pos,.int .i64 m.count,.int .i64 m.at_]
theorem riseM_low:∀(l:List MarkD) (p a:Int),riseM p a l=true→∀(k:Nat) (h:k<l.length),p≤l[k].pos∧1≤l[k].count∧l[k].pos+l[k].count≤4611686018427387904
 | [],_,_,_,k,h=>absurd h (Nat.not_lt_zero _)
 | m::l,p,a,hr,k,h=>by
  simp only[riseM,Bool.and_eq_true] at hr
  obtain⟨f1,f2,f3,f4,f5,_⟩:=fitsM_facts hr.1
  cases k with
  | zero=>exact ⟨f3,f1,f5⟩
  | succ k=>
   obtain⟨i1,i2,i3⟩:=riseM_low l _ _ hr.2 k (by simpa using h)
   rw[List.getElem_cons_succ]
   exact⟨by omega,i2,i3⟩
theorem riseM_lt:∀(l:List MarkD) (p a:Int),riseM p a l=true→∀(i k:Nat) (hik:i<k) (h:k<l.length),(l[i]'(by omega)).pos+(l[i]'(by omega)).count≤l[k].pos
 | [],_,_,_,i,k,hik,h=>absurd h (Nat.not_lt_zero _)
 | m::l,p,a,hr,i,k,hik,h=>by
  simp only[riseM,Bool.and_eq_true] at hr
  obtain⟨k,rfl⟩:∃j,k=j+1:=⟨k-1,by omega⟩
  rw[List.getElem_cons_succ]
  cases i with
  | zero=>exact (riseM_low l _ _ hr.2 k (by simpa using h)).1
  | succ i=>
   rw[List.getElem_cons_succ]
   exact riseM_lt l _ _ hr.2 i k (by omega) (by simpa using h)
theorem fndM_none{l:List MarkD}{pos:Int}(h:∀(k:Nat) (hk:k<l.length),l[k].pos+l[k].count≤pos∨pos<l[k].pos):fndM l pos=none:=by
 unfold fndM
 rw[List.find?_eq_none]
 intro m hm
 obtain⟨k,hk,rfl⟩:=List.getElem_of_mem hm
 have:=h k hk
 simp only[Bool.and_eq_true,decide_eq_true_eq]
 omega
theorem fndM_some{l:List MarkD}{pos:Int}{k:Nat}(hR:marksR l=true)(hk:k<l.length)(h1:l[k].pos≤pos)(h2:pos<l[k].pos+l[k].count):fndM l pos=some l[k]:=by
 unfold fndM
 unfold marksR at hR
 simp only[Bool.and_eq_true] at hR
 rw[List.find?_eq_some_iff_getElem]
 refine⟨by simp;omega,k,hk,rfl,fun j hj=> ?_⟩
 have:=riseM_lt l 0 0 hR.1 j k hj hk
 simp
 omega
theorem index_find(w:World)(l:List MarkD)(al:Option Addr)(nl cl:Nat)(hl:rMarks.r (·<w.heap.size) w [.slice al nl cl] l)(hR:marksR l=true)(pos:Int)(hp:0≤pos∧pos≤18446744073709551615):
  Calls Tryz.prog 120 #[.slice al nl cl,.int .u64 pos] w fun r w'=>r=.returned (.tuple #[.agg (markV (fndM l pos)),.bool (fndM l pos).isSome])∧Below w.heap.size w w':=by
 obtain⟨rfl,hm,_,_⟩:=sl_len hl
 have HIR:=hid (fun (W:World) (hW:Below w.heap.size w W)=>(by have:=index_right l al _ cl W (lift hl hW);rw[hR] at this;exact this))
 have HR:=hid hR
 have hR':=hR
 unfold marksR at hR'
 simp only[Bool.and_eq_true,decide_eq_true_eq] at hR'
 obtain⟨hr,h16⟩:=hR'
 have HLO:=hid (riseM_low l 0 0 hr)
 have HLT:=hid (riseM_lt l 0 0 hr)
 have HL:=hid hl
 have HN:=hid (fndM_none (l:=l) (pos:=pos))
 have HS:=hid (fun (k:Nat) (hk:k<l.length)=>fndM_some (pos:=pos) hR hk)
 obtain⟨RES,hRES⟩:∃RES,RES=fndM l pos:=⟨_,rfl⟩
 rw[←hRES] at HN HS ⊢
 clear hl hR hr hRES
 go_enter Tryz.func120,Tryz.ntmps120
 go_upto_region 1 with (fail)
 have hb0:Below w.heap.size w (w.alloc (.cells #[.int .u64 0,.int .i64 0,.int .i64 0] 141)):=by (repeat (first | with_reducible exact Below.refl _ _ | with_reducible assumption | (with_reducible refine below_alloc ?_ _) | (with_reducible refine Below.setCell ?_ (by first | omega | (simp;done) | (simp;omega)) _) | (with_reducible refine Below.drew ?_) | (with_reducible refine below_drewN ?_ _) | (refine below_then (by with_reducible assumption) ?_)))
 have HB0:Hid (Blk (w.alloc (.cells #[.int .u64 0,.int .i64 0,.int .i64 0] 141)) w.heap.size 141 #[.int .u64 0,.int .i64 0,.int .i64 0]):=hid (Blk.new _ _ _)
 generalize (w.alloc (.cells #[.int .u64 0,.int .i64 0,.int .i64 0] 141))=w0 at*
 refine wp_scope_entry 0 (fun a' W=>∃(lo hi:Nat) (hlo:∀(k:Nat) (hk:k<l.length),k<lo→l[k].pos+l[k].count≤pos) (hhi:∀(k:Nat) (hk:k<l.length),hi≤k→pos<l[k].pos) (u2 u3 u9 u10 u11 u12 u13 u14 u15 u16 u17 u18 u19 u20 u21 u22 u23 u24 u25 u26 u27 u28 u29 u30 u31 u32 u33 u34 u35 u36 u37 u38 u39 u40 u41 u8:Value),lo≤hi∧hi≤l.length∧Blk W w.heap.size 141 #[.int .u64 0,.int .i64 0,.int .i64 0]∧Below w.heap.size w W∧a'={tmps:=#[.slice al l.length cl,.int .u64 pos,u2,u3,.pointer (some ⟨w.heap.size,0,none⟩),.bool false,.int .i64 (lo:Int),.int .i64 (hi:Int),u8,u9,u10,u11,u12,u13,u14,u15,u16,u17,u18,u19,u20,u21,u22,u23,u24,u25,u26,u27,u28,u29,u30,u31,u32,u33,u34,u35,u36,u37,u38,u39,u40,u41],defers:=[]}) (fun a' _=>(intOf (a'.tmps.getD 7 undef)).toNat-(intOf (a'.tmps.getD 6 undef)).toNat) rfl ?_ ?_
 ·rintro a' W ⟨lo,hi,hlo,hhi,u2,u3,u9,u10,u11,u12,u13,u14,u15,u16,u17,u18,u19,u20,u21,u22,u23,u24,u25,u26,u27,u28,u29,u30,u31,u32,u33,u34,u35,u36,u37,u38,u39,u40,u41,u8,hle,hhl,hB,hbW,rfl⟩
  have HLOW:=hid hlo;have HHIG:=hid hhi
  have HB:=hid hB
  clear hlo hhi hB
  by_cases heq:lo=hi
  ·have d1:((lo:Int)==(hi:Int))=true:=by simp[heq]
   have hn:=HN.out (fun k hk=>by
    rcases Nat.lt_or_ge k lo with h | h
    ·exact .inl (HLOW.out k hk h)
    ·exact .inr (HHIG.out k hk (by omega)))
   subst hn
   obtain⟨q0,q1,q2,lq⟩:=m3_blk HB.out
   have z0:=HB.out.free 0
   have z1:=HB.out.free 1
   have z2:=HB.out.free 2
   clear heq
   go_wp2_with fail
   simp only[Exit.jump]
   refine bodyPost_ret (v:=.tuple #[.agg #[.int .u64 0,.int .i64 0,.int .i64 0],.bool false]) (by simp[results,Tryz.results120,go_sem,q0,q1,q2,lq]) rfl ⟨rfl,by (repeat (first | with_reducible exact Below.refl _ _ | with_reducible assumption | (with_reducible refine below_alloc ?_ _) | (with_reducible refine Below.setCell ?_ (by first | omega | (simp;done) | (simp;omega)) _) | (with_reducible refine Below.drew ?_) | (with_reducible refine below_drewN ?_ _) | (refine below_then (by with_reducible assumption) ?_)))⟩
  ·have d1:((lo:Int)==(hi:Int))=false:=by simp;omega
   obtain⟨mid,hmid⟩:∃mid:Nat,mid=(lo+hi)/2:=⟨_,rfl⟩
   have hm1:Int.tdiv ((lo:Int)+(hi:Int)) 2=(mid:Int):=by
    rw[←Int.natCast_add,show (2:Int)=((2:Nat):Int) from rfl,←Int.ofNat_tdiv,hmid]
   have hml:lo≤mid∧mid<hi:=by omega
   have hmL:mid<l.length:=by omega
   obtain⟨b,o,hA,hbb,x0,x1,x2,hN⟩:=mark_at (lift HL.out hbW) hmL
   have hbo:b<w.heap.size:=by
    obtain⟨b2,o2,hA2,hbb2,_⟩:=mark_at HL.out hmL
    rw[hA] at hA2;simp at hA2;omega
   subst hA
   have i1:(mid:Int)<(l.length:Int):=by omega
   have hms:=HS.out mid hmL
   obtain⟨g1,g2,g3⟩:=HLO.out mid hmL
   have HUP:∀(k:Nat) (hk:k<l.length) (h:mid<k),l[mid].pos+l[mid].count≤l[k].pos:=fun k hk h=>HLT.out mid k h hk
   have HDN:∀(k:Nat) (hk:k<l.length) (h:k<mid),l[k].pos+l[k].count≤l[mid].pos:=fun k hk h=>HLT.out k mid h hmL
   generalize hmE:l[mid]=m at*
   have HMQ:=hid hmE
   have HUP:=hid HUP
   have HDN:=hid HDN
   have HIE:=hid (fun (W:World)=>index_end m (by omega) (by omega) (by omega) W)
   have hMM:Hid (Blk (W.alloc (.cells #[.int .u64 m.pos,.int .i64 m.count,.int .i64 m.at_] 141)) W.heap.size 141 #[.int .u64 m.pos,.int .i64 m.count,.int .i64 m.at_]):=hid (Blk.new _ _ _)
   have hbA:Below W.heap.size W (W.alloc (.cells #[.int .u64 m.pos,.int .i64 m.count,.int .i64 m.at_] 141)):=by (repeat (first | with_reducible exact Below.refl _ _ | with_reducible assumption | (with_reducible refine below_alloc ?_ _) | (with_reducible refine Below.setCell ?_ (by first | omega | (simp;done) | (simp;omega)) _) | (with_reducible refine Below.drew ?_) | (with_reducible refine below_drewN ?_ _) | (refine below_then (by with_reducible assumption) ?_)))
   have HBA:=hid (HB.out.later hbA)
   have hbWA:=below_then hbA hbW
   have n2:((2:Int)==0)=false:=rfl
   clear hmid heq hmE
   go_upto_region 9 with (fail)
   generalize (W.alloc (.cells #[.int .u64 m.pos,.int .i64 m.count,.int .i64 m.at_] 141))=wA at*
   generalize W.heap.size=gm at*
   clear x0 x1 x2 HB hbA hbW
   obtain⟨y0,y1,y2,ly⟩:=m3_blk hMM.out
   by_cases q1:pos<m.pos
   ·have d2:decide (pos<m.pos)=true:=decide_eq_true q1
    have HHI2:=hid (fun (k:Nat) (hk:k<l.length) (h:mid≤k)=>(by
     rcases Nat.lt_or_ge mid k with h' | h'
     ·have:=HUP.out k hk h'
      omega
     ·have hkm:k=mid:=by omega
      subst hkm
      rw[HMQ.out]
      exact q1:pos<l[k].pos))
    clear q1
    go_wp2_with fail
    go_step3
    refine⟨rfl,⟨lo,mid,HLOW.out,HHI2.out,_,_,_,_,_,_,_,_,_,_,_,_,_,_,_,_,_,_,_,_,_,_,_,_,_,_,_,_,_,_,_,_,_,_,_,_,hml.1,by omega,HBA.out,hbWA,rfl⟩,?_⟩
    simp[intOf]
    omega
   ·have d2:decide (pos<m.pos)=false:=decide_eq_false q1
    go_wp2_with fail
    refine (HIE.out _).mono ?_
    rintro r wE ⟨rfl,hbE⟩
    have HBE:=hid (HBA.out.later hbE)
    have HME:=hid (hMM.out.later hbE)
    have hbWE:=below_then hbE hbWA
    clear y0 y1 y2 ly HBA hMM hbE
    obtain⟨y0,y1,y2,ly⟩:=m3_blk HME.out
    by_cases q2:m.pos+m.count≤pos
    ·have d3:decide (m.pos+m.count≤pos)=true:=decide_eq_true q2
     have HLO2:=hid (fun (k:Nat) (hk:k<l.length) (h:k<mid+1)=>(by
      rcases Nat.lt_or_ge k mid with h' | h'
      ·have:=HDN.out k hk h'
       omega
      ·have hkm:k=mid:=by omega
       subst hkm
       rw[HMQ.out]
       exact q2:l[k].pos+l[k].count≤pos))
     clear q1 q2
     go_wp2_with fail
     go_step3
     refine⟨rfl,⟨mid+1,hi,HLO2.out,HHIG.out,_,_,_,_,_,_,_,_,_,_,_,_,_,_,_,_,_,_,_,_,_,_,_,_,_,_,_,_,_,_,_,_,_,_,_,_,by omega,hhl,HBE.out,hbWE,by simp only[Int.natCast_add,Int.natCast_one];rfl⟩,?_⟩
     simp[intOf]
     omega
    ·have d3:decide (m.pos+m.count≤pos)=false:=decide_eq_false q2
     have hres:=hms (by omega) (by omega)
     subst hres
     obtain⟨q0',q1',q2',lq⟩:=m3_blk HBE.out
     have z0:=HBE.out.free 0
     have z1:=HBE.out.free 1
     have z2:=HBE.out.free 2
     clear q1 q2
     go_wp2_with fail
     simp only[Exit.jump]
     refine bodyPost_ret (v:=.tuple #[.agg #[.int .u64 m.pos,.int .i64 m.count,.int .i64 m.at_],.bool true]) (by simp[results,Tryz.results120,go_sem,q0',q1',q2',lq]) rfl ⟨rfl,by (repeat (first | with_reducible exact Below.refl _ _ | with_reducible assumption | (with_reducible refine below_alloc ?_ _) | (with_reducible refine Below.setCell ?_ (by first | omega | (simp;done) | (simp;omega)) _) | (with_reducible refine Below.drew ?_) | (with_reducible refine below_drewN ?_ _) | (refine below_then (by with_reducible assumption) ?_)))⟩
 ·intro K hK
  have HKK:=hid hK
  clear hK
  go_wp2_with fail
  refine (HIR.out _ hb0).mono ?_
  rintro r w1 ⟨rfl,hb1⟩
  have HB1:=hid (HB0.out.later hb1)
  have hbw1:=below_then hb1 hb0
  clear HB0 hb1 HIR hb0
  go_wp2_with fail
  go_step3
  rename_i hkk
  exact hkk _ _ (HKK.out _ _ ⟨0,l.length,fun k hk h=>absurd h (Nat.not_lt_zero _),fun k hk h=>absurd hk (by omega),_,_,_,_,_,_,_,_,_,_,_,_,_,_,_,_,_,_,_,_,_,_,_,_,_,_,_,_,_,_,_,_,_,_,_,_,Nat.zero_le _,Nat.le_refl _,HB1.out,hbw1,rfl⟩)
theorem batC_in{D:List UInt8}(hD:D.length≤1000000000): -10000000≤(batC D).2.2.2∧(batC D).2.2.2≤3000000000:=by
 obtain⟨h1,h2,_⟩:=cont_in (kind:=1) (rd:=fun P s=>((Rs.batch P (blkS P) s).1,(Rs.batch P (blkS P) s).2.1)) (z:=noBatch) hD (fun P s h=>Rs.batch_fit (blk:=blkS P) (fun t ht=>blkS_fit ht) h)
 exact⟨h1,h2⟩
def batV(m:MarkD)(c:Batch × Nat × Int × Int):Int × Int:=if c.2.2.1=0 then (if c.1.base=m.pos∧(c.1.entries.length:Int)=m.count then (0,0) else (12,0)) else (c.2.2.1,c.2.2.2)
theorem batAt_eq{B:List UInt8}{m:MarkD}{e:Int}(h:¬e≤m.at_):batAt B m e=((batC ((B.take e.toNat).drop m.at_.toNat)).1,(batV m (batC ((B.take e.toNat).drop m.at_.toNat))).1,if (batV m (batC ((B.take e.toNat).drop m.at_.toNat))).1=0 then 0 else (batV m (batC ((B.take e.toNat).drop m.at_.toNat))).2+m.at_):=by
 unfold batAt batV
 rw[if_neg h]
 dsimp only
 generalize batC ((B.take e.toNat).drop m.at_.toNat)=c
 by_cases h1:c.2.2.1=0
 ·rw[if_pos h1,if_pos h1]
  by_cases h2:c.1.base=m.pos∧(c.1.entries.length:Int)=m.count
  ·rw[if_pos h2,if_pos h2]
   rfl
  ·rw[if_neg h2,if_neg h2]
   dsimp only
   rw[if_neg (by decide),Int.zero_add]
 ·rw[if_neg h1,if_neg h1]
  dsimp only
  rw[if_neg h1]
structure BaI(w W:World)(m:MarkD):Prop where
 mb:Blk W w.heap.size 141 #[.int .u64 m.pos,.int .i64 m.count,.int .i64 m.at_]
 rb:Blk W (w.heap.size+1) 60 #[.int .u64 0,.int .u64 0,.slice none 0 0]
 fb:Blk W (w.heap.size+1+1) 31 #[.int .i64 0,.int .i64 0]
 bl:Below w.heap.size w W
theorem BaI.later{w W W':World}{m:MarkD}(h:BaI w W m)(hb:Below W.heap.size W W'):BaI w W' m:=⟨h.mb.later hb,h.rb.later hb,h.fb.later hb,below_then hb h.bl⟩
theorem BaI.lo{w W W':World}{m:MarkD}{lo:Nat}(h:BaI w W m)(hb:Below lo W W')(hl:w.heap.size+3≤lo):BaI w W' m:=⟨h.mb.below hb (by omega),h.rb.below hb (by omega),h.fb.below hb (by omega),h.bl.trans (hb.mono (by omega))⟩
theorem lookup_batchat(w:World)(B:List UInt8)(a:Option Addr)(n c:Nat)(hl:rBytes.r (·<w.heap.size) w [.slice a n c] B)(hB:B.length≤1000000000)(m:MarkD)(e:Int)(hm:0≤m.at_∧m.at_≤1099511627775)(he:e≤B.length):
  Calls Tryz.prog 121 #[.slice a n c,.agg #[.int .u64 m.pos,.int .i64 m.count,.int .i64 m.at_],.int .i64 e] w fun r w'=>∃v,r=.returned (.tuple #[.agg #[.int .u64 (batAt B m e).1.epoch,.int .u64 (batAt B m e).1.base,v],.agg #[.int .i64 (batAt B m e).2.1,.int .i64 (batAt B m e).2.2]])∧rEntries.r (fun q=>w.heap.size≤q∧q<w'.heap.size) w' [v] (batAt B m e).1.entries∧Below w.heap.size w w':=by
 obtain⟨rfl,hmx,hcc,hcm⟩:=sl_len hl
 have I0:BaI w (((w.alloc (.cells #[.int .u64 m.pos,.int .i64 m.count,.int .i64 m.at_] 141)).alloc (.cells #[.int .u64 0,.int .u64 0,.slice none 0 0] 60)).alloc (.cells #[.int .i64 0,.int .i64 0] 31)) m:=⟨by (repeat (first | assumption | exact Blk.newAt _ _ _ (by first | (simp;done) | (simp;omega)) | refine Blk.alloc ?_ _ | refine Blk.drew ?_ | refine Blk.drewN ?_ _ | refine Blk.far ?_ (by first | (simp;done) | (simp;omega)) _)),by (repeat (first | assumption | exact Blk.newAt _ _ _ (by first | (simp;done) | (simp;omega)) | refine Blk.alloc ?_ _ | refine Blk.drew ?_ | refine Blk.drewN ?_ _ | refine Blk.far ?_ (by first | (simp;done) | (simp;omega)) _)),by (repeat (first | assumption | exact Blk.newAt _ _ _ (by first | (simp;done) | (simp;omega)) | refine Blk.alloc ?_ _ | refine Blk.drew ?_ | refine Blk.drewN ?_ _ | refine Blk.far ?_ (by first | (simp;done) | (simp;omega)) _)),by (repeat (first | with_reducible exact Below.refl _ _ | with_reducible assumption | (with_reducible refine below_alloc ?_ _) | (with_reducible refine Below.setCell ?_ (by first | omega | (simp;done) | (simp;omega)) _) | (with_reducible refine Below.drew ?_) | (with_reducible refine below_drewN ?_ _) | (refine below_then (by with_reducible assumption) ?_)))⟩
 have hz0:w.heap.size+3≤(((w.alloc (.cells #[.int .u64 m.pos,.int .i64 m.count,.int .i64 m.at_] 141)).alloc (.cells #[.int .u64 0,.int .u64 0,.slice none 0 0] 60)).alloc (.cells #[.int .i64 0,.int .i64 0] 31)).heap.size:=by simp
 have HI0:=hid I0
 clear I0
 by_cases hem:e≤m.at_
 ·have hres:batAt B m e=(noBatch,3,m.at_):=by
   unfold batAt
   rw[if_pos hem]
  rw[hres]
  have d1:decide (e≤m.at_)=true:=decide_eq_true hem
  have HFA:=hid (fun (W:World)=>fault_at W 3 m.at_ (by decide))
  clear hres hem hl
  go_enter Tryz.func121,Tryz.ntmps121
  go_upto_region 1 with (fail)
  generalize (((w.alloc (.cells #[.int .u64 m.pos,.int .i64 m.count,.int .i64 m.at_] 141)).alloc (.cells #[.int .u64 0,.int .u64 0,.slice none 0 0] 60)).alloc (.cells #[.int .i64 0,.int .i64 0] 31))=w0 at*
  obtain⟨x0,x1,x2,lx⟩:=m3_blk HI0.out.mb
  go_wp2_with fail
  refine (HFA.out _).mono ?_
  rintro r w1 ⟨rfl,hb1⟩
  have I1:=HI0.out.later hb1
  clear x0 x1 x2 lx HI0
  obtain⟨z0,z1,z2,lz⟩:=m3_blk I1.rb
  have g0:=I1.rb.free 0
  have g1:=I1.rb.free 1
  have g2:=I1.rb.free 2
  obtain⟨q0,q1,q2,q3,lq⟩:=f_blk I1.fb
  have hbl:=I1.bl
  go_wp2_with fail
  all_goals refine bodyPost_ret (v:=.tuple #[.agg #[.int .u64 0,.int .u64 0,.slice none 0 0],.agg #[.int .i64 3,.int .i64 m.at_]]) (by simp[results,Tryz.results121,go_sem,z0,z1,z2,lz,q0,q1,lq]) rfl ⟨_,rfl,rEntries_nil,by (repeat (first | with_reducible exact Below.refl _ _ | with_reducible assumption | (with_reducible refine below_alloc ?_ _) | (with_reducible refine Below.setCell ?_ (by first | omega | (simp;done) | (simp;omega)) _) | (with_reducible refine Below.drew ?_) | (with_reducible refine below_drewN ?_ _) | (refine below_then (by with_reducible assumption) ?_)))⟩
 ·have d1:decide (e≤m.at_)=false:=decide_eq_false hem
  rw[batAt_eq hem]
  obtain⟨lo,hlo⟩:∃lo:Nat,(lo:Int)=m.at_:=⟨m.at_.toNat,by omega⟩
  obtain⟨hi,hhi⟩:∃hi:Nat,(hi:Int)=e:=⟨e.toNat,by omega⟩
  rw[show e.toNat=hi by omega,show m.at_.toNat=lo by omega,show (B.take hi).drop lo=(B.drop lo).take (hi-lo) from List.drop_take ..]
  obtain⟨aD,cD,hsl,hsub⟩:=cut_bytes hl (lo:=lo) (hi:=hi) (by omega) (by omega)
  have hDl:((B.drop lo).take (hi-lo)).length=hi-lo:=by simp;omega
  generalize (B.drop lo).take (hi-lo)=D at*
  rw[←hDl] at hsl hsub
  rw[hlo,hhi] at hsl
  have HCB:=hid (fun (W:World) (hW:Below w.heap.size w W)=>content_batch W D aD _ cD (lift hsub hW) (by omega))
  have hin:=batC_in (D:=D) (by omega)
  generalize batC D=X at*
  obtain⟨b,nn,ck,cf⟩:=X
  dsimp only at*
  obtain⟨K,hK⟩:∃K:Bool,K=(decide (ck=0)&& !(decide (b.base=m.pos)&&decide ((b.entries.length:Int)=m.count))):=⟨_,rfl⟩
  have hv:batV m (b,nn,ck,cf)=if K=true then (12,0) else (ck,if ck=0 then 0 else cf):=by
   unfold batV
   dsimp only
   by_cases h1:ck=0
   ·rw[if_pos h1,if_pos h1]
    by_cases h2:b.base=m.pos∧(b.entries.length:Int)=m.count
    ·rw[if_pos h2,hK,decide_eq_true h1,decide_eq_true h2.1,decide_eq_true h2.2,if_neg (by decide),h1]
    ·rw[if_neg h2,hK,decide_eq_true h1]
     have:(decide (b.base=m.pos)&&decide ((b.entries.length:Int)=m.count))=false:=by
      rw[Bool.eq_false_iff]
      intro h
      simp only[Bool.and_eq_true,decide_eq_true_eq] at h
      exact h2 h
     rw[this]
     rfl
   ·rw[if_neg h1,if_neg h1,hK,decide_eq_false h1,if_neg (by simp)]
  rw[hv]
  obtain⟨kk,kf,hkk⟩:∃kk kf:Int,(kk,kf)=(if K=true then ((12:Int),(0:Int)) else (ck,cf)):=by
   split
   ·exact⟨_,_,rfl⟩
   ·exact⟨_,_,rfl⟩
  have hkin: -100000000000≤kf∧kf≤100000000000:=by
   split at hkk
   ·simp only[Prod.mk.injEq] at hkk
    omega
   ·simp only[Prod.mk.injEq] at hkk
    omega
  obtain⟨kr,fr,hkr⟩:∃kr fr:Int,kr=kk∧fr=(if kk=0 then 0 else kf+m.at_):=⟨_,_,rfl,rfl⟩
  have hout:(if K=true then ((12:Int),(0:Int)) else (ck,if ck=0 then 0 else cf)).1=kr∧(if (if K=true then ((12:Int),(0:Int)) else (ck,if ck=0 then 0 else cf)).1=0 then 0 else (if K=true then ((12:Int),(0:Int)) else (ck,if ck=0 then 0 else cf)).2+m.at_)=fr:=by
   rw[hkr.1,hkr.2]
   split at hkk
   ·rename_i h
    rw[if_pos h]
    simp only[Prod.mk.injEq] at hkk
    obtain⟨rfl,rfl⟩:=hkk
    exact⟨rfl,rfl⟩
   ·rename_i h
    rw[if_neg h]
    simp only[Prod.mk.injEq] at hkk
    obtain⟨rfl,rfl⟩:=hkk
    dsimp only
    by_cases h0:kk=0
    ·rw[if_pos h0,if_pos h0]
     exact⟨rfl,rfl⟩
    ·rw[if_neg h0,if_neg h0,if_neg h0]
     exact⟨rfl,rfl⟩
  rw[hout.2,hout.1]
  have HSH:Hid (∀W:World,Calls Tryz.prog 174 #[.agg #[.int .i64 kk,.int .i64 kf],.int .i64 m.at_] W fun r w'=>r=.returned (.agg #[.int .i64 kr,.int .i64 fr])∧Below W.heap.size W w'):=hid fun W=>by
   rw[hkr.1,hkr.2]
   by_cases h5:kk=0
   ·rw[if_pos h5,h5]
    exact fault_shift0 W kf _
   ·rw[if_neg h5]
    exact fault_shift W kk kf _ h5 (by omega) (by omega)
  have HGD:=hid (fun (W:World)=>fault_good W ck cf)
  have HF12:=hid (fun (W:World)=>fault_at W 12 0 (by decide))
  have HKK:=hid hkk
  have HK:=hid hK
  clear hl hsub hDl hin hv hkk hkin hkr hout hK hem hlo hhi
  go_enter Tryz.func121,Tryz.ntmps121
  go_upto_region 1 with (fail)
  generalize (((w.alloc (.cells #[.int .u64 m.pos,.int .i64 m.count,.int .i64 m.at_] 141)).alloc (.cells #[.int .u64 0,.int .u64 0,.slice none 0 0] 60)).alloc (.cells #[.int .i64 0,.int .i64 0] 31))=w0 at*
  obtain⟨x0,x1,x2,lx⟩:=m3_blk HI0.out.mb
  go_wp2_with fail
  refine (HCB.out _ HI0.out.bl).mono ?_
  rintro r w1 ⟨v1,rfl,hr1,hb1⟩
  obtain⟨a1,c1,hv1,hr1',_⟩:=sl_form hr1
  simp only[List.cons.injEq,and_true] at hv1
  subst hv1
  have hgw:w.heap.size+3≤w1.heap.size:=Nat.le_trans hz0 hb1.size
  have hw0:w.heap.size≤w0.heap.size:=HI0.out.bl.size
  clear x0 x1 x2 lx
  go_upto_region 4 with (fail)
  refine wp_world (fun W=>BaI w W m∧Blk W w1.heap.size 60 #[.int .u64 b.epoch,.int .u64 b.base,.slice a1 b.entries.length c1]∧Blk W (w1.heap.size+1) 31 #[.int .i64 ck,.int .i64 cf]∧rEntries.r (fun q=>w0.heap.size≤q∧q<w1.heap.size) W [.slice a1 b.entries.length c1] b.entries∧w1.heap.size+1<W.heap.size) ⟨HI0.out.later (hb1.trans ((by (repeat (first | with_reducible exact Below.refl _ _ | with_reducible assumption | (with_reducible refine below_alloc ?_ _) | (with_reducible refine Below.setCell ?_ (by first | omega | (simp;done) | (simp;omega)) _) | (with_reducible refine Below.drew ?_) | (with_reducible refine below_drewN ?_ _) | (refine below_then (by with_reducible assumption) ?_))):Below w1.heap.size w1 _).mono hb1.size)),by (repeat (first | assumption | exact Blk.newAt _ _ _ (by first | (simp;done) | (simp;omega)) | refine Blk.alloc ?_ _ | refine Blk.drew ?_ | refine Blk.drewN ?_ _ | refine Blk.far ?_ (by first | (simp;done) | (simp;omega)) _)),by (repeat (first | assumption | exact Blk.newAt _ _ _ (by first | (simp;done) | (simp;omega)) | refine Blk.alloc ?_ _ | refine Blk.drew ?_ | refine Blk.drewN ?_ _ | refine Blk.far ?_ (by first | (simp;done) | (simp;omega)) _)),rEntries.keep hr1' fun q hq=>(by (repeat (first | with_reducible exact Below.refl _ _ | with_reducible assumption | (with_reducible refine below_alloc ?_ _) | (with_reducible refine Below.setCell ?_ (by first | omega | (simp;done) | (simp;omega)) _) | (with_reducible refine Below.drew ?_) | (with_reducible refine below_drewN ?_ _) | (refine below_then (by with_reducible assumption) ?_))):Below w1.heap.size w1 _).block q hq.2,by simp⟩ ?_
  intro w2 ⟨hI,hV,hX,hM,hz2⟩
  have HI:=hid hI;have HV:=hid hV;have HX:=hid hX;have HM:=hid hM
  have hbx:w1.heap.size<w1.heap.size+1:=Nat.lt_succ_self _
  clear hI hV hX hM hr1 hr1' hb1 HI0 HCB
  generalize w1.heap.size+1=gx at*
  generalize w1.heap.size=gb at*
  have hgw2:=hgw
  have hz2':=hz2
  clear hgw hz2
  go_cut [45] from 29 to 44 (fun v V=>v=.bool K∧Hid (BaI w V m∧Blk V gb 60 #[.int .u64 b.epoch,.int .u64 b.base,.slice a1 b.entries.length c1]∧Blk V gx 31 #[.int .i64 ck,.int .i64 cf]∧rEntries.r (fun q=>w0.heap.size≤q∧q<gb) V [.slice a1 b.entries.length c1] b.entries))
  case first=>
   obtain⟨x0,x1,x2,x3,lx⟩:=f_blk HX.out
   go_wp2_with fail
   refine (HGD.out _).mono ?_
   rintro r w3 ⟨rfl,hb3⟩
   have hI3:=HI.out.later hb3
   have hV3:=HV.out.later hb3
   have hX3:=HX.out.later hb3
   have hM3:=rEntries.keep HM.out fun q hq=>hb3.block q (by omega)
   have H3:=hid (And.intro hI3 (And.intro hV3 (And.intro hX3 hM3)))
   obtain⟨y0,y1,y2,ly⟩:=m3_blk hI3.mb
   obtain⟨v0,v1,v2,lv⟩:=m3_blk hV3
   have hk:=HK.out
   clear x0 x1 x2 x3 lx hb3 hI3 hV3 hX3 hM3
   by_cases h1:ck=0
   ·have e1:decide (ck=0)=true:=decide_eq_true h1
    rw[e1] at hk
    by_cases h2:b.base=m.pos
    ·have e2:(b.base !=m.pos)=false:=by simp[h2]
     rw[decide_eq_true h2] at hk
     by_cases h3:(b.entries.length:Int)=m.count
     ·have e3:((b.entries.length:Int) !=m.count)=false:=by simp[h3]
      rw[decide_eq_true h3] at hk
      have HKq:=hid hk
      clear h1 h2 h3 hk
      go_wp2_with fail
      go_meet
      case rel=>exact ⟨by rw[HKq.out];rfl,H3⟩
     ·have e3:((b.entries.length:Int) !=m.count)=true:=by simp[h3]
      rw[decide_eq_false h3] at hk
      have HKq:=hid hk
      clear h1 h2 h3 hk
      go_wp2_with fail
      go_meet
      case rel=>exact ⟨by rw[HKq.out];rfl,H3⟩
    ·have e2:(b.base !=m.pos)=true:=by simp[h2]
     rw[decide_eq_false h2] at hk
     have HKq:=hid hk
     clear h1 h2 hk
     go_wp2_with fail
     go_meet
     case rel=>exact ⟨by rw[HKq.out];rfl,H3⟩
   ·have e1:decide (ck=0)=false:=decide_eq_false h1
    rw[e1] at hk
    have HKq:=hid hk
    clear h1 hk
    go_wp2_with fail
    go_meet
    case rel=>exact ⟨by rw[HKq.out];rfl,H3⟩
  case rest=>
   obtain⟨rfl,hV⟩:=hcut
   obtain⟨hI3,hV3,hX3,hM3⟩:=hV.out
   have HI3:=hid hI3;have HV3:=hid hV3;have HX3:=hid hX3;have HM3:=hid hM3
   clear hV hI3 hV3 hX3 hM3 HI HV HX HM HGD
   go_upto_if 45 with (fail)
   go_cut [] from 46 to 46 (fun V=>Hid (BaI w V m∧Blk V gb 60 #[.int .u64 b.epoch,.int .u64 b.base,.slice a1 b.entries.length c1]∧Blk V gx 31 #[.int .i64 kk,.int .i64 kf]∧rEntries.r (fun q=>w0.heap.size≤q∧q<gb) V [.slice a1 b.entries.length c1] b.entries))
   case first=>
    have hkk:=HKK.out
    cases K
    ·rw[if_neg (by decide)] at hkk
     simp only[Prod.mk.injEq] at hkk
     have H4:Hid (BaI w wc m∧Blk wc gb 60 #[.int .u64 b.epoch,.int .u64 b.base,.slice a1 b.entries.length c1]∧Blk wc gx 31 #[.int .i64 kk,.int .i64 kf]∧rEntries.r (fun q=>w0.heap.size≤q∧q<gb) wc [.slice a1 b.entries.length c1] b.entries):=hid ⟨HI3.out,HV3.out,by rw[hkk.1,hkk.2];exact HX3.out,HM3.out⟩
     clear hkk
     go_wp2_with fail
     go_meet
     case rel=>exact H4
    ·rw[if_pos rfl] at hkk
     simp only[Prod.mk.injEq] at hkk
     obtain⟨rfl,rfl⟩:=hkk
     go_wp2_with fail
     refine (HF12.out _).mono ?_
     rintro r w4 ⟨rfl,hb4⟩
     have HI4:=hid (HI3.out.later hb4)
     have HV4:=hid (HV3.out.later hb4)
     have HX4:=hid (HX3.out.later hb4)
     have hlt3:gx<wc.heap.size:=HX3.out.lt
     have HM4:=hid (rEntries.keep HM3.out fun q hq=>hb4.block q (by omega))
     obtain⟨x0,x1,x2,x3,lx⟩:=f_blk HX4.out
     clear hb4
     go_wp2_with fail
     go_meet
     case rel=>exact hid ⟨HI4.out.lo (lo:=gx) (by (repeat (first | with_reducible exact Below.refl _ _ | with_reducible assumption | (with_reducible refine below_alloc ?_ _) | (with_reducible refine Below.setCell ?_ (by first | omega | (simp;done) | (simp;omega)) _) | (with_reducible refine Below.drew ?_) | (with_reducible refine below_drewN ?_ _) | (refine below_then (by with_reducible assumption) ?_)))) (by omega),Blk.far (Blk.far HV4.out (by dsimp only;omega) _) (by dsimp only;omega) _,(HX4.out.set 0 _).set 1 _,rEntries.keep HM4.out fun q hq=>by repeat (rw[Below.heap_setCell _ _ _ _ (by dsimp only;omega)])⟩
   case rest=>
    obtain⟨hI4,hV4,hX4,hM4⟩:=hcut.out
    have hlt4:gx<wc.heap.size:=hX4.lt
    obtain⟨v0,v1,v2,lv⟩:=m3_blk hV4
    obtain⟨x0,x1,x2,x3,lx⟩:=f_blk hX4
    have m2:wc.cell? ⟨w.heap.size,2,none⟩=some (.int .i64 m.at_):=hI4.mb.cell 2
    have lm:w.heap.size<wc.heap.size:=hI4.mb.lt
    have HI4:=hid hI4;have HM4:=hid hM4
    obtain⟨wq,hwq⟩:∃W:World,W=wc:=⟨_,rfl⟩
    clear hcut hI4 hV4 hX4 hM4 HI3 HV3 HX3 HM3 HF12 HKK HK x2 x3
    go_upto_region 6 with (fail)
    refine wp_region_held_drew (S:=fun w'=>w'.cell? ⟨gb,0,none⟩=some (.int .u64 b.epoch)∧w'.cell? ⟨gb,1,none⟩=some (.int .u64 b.base)∧w'.cell? ⟨gb,2,none⟩=some (.slice a1 b.entries.length c1)∧w'.cell? ⟨gx,0,none⟩=some (.int .i64 kk)∧w'.cell? ⟨gx,1,none⟩=some (.int .i64 kf)∧w'.cell? ⟨w.heap.size,2,none⟩=some (.int .i64 m.at_)) (by kernel_rfl) ⟨v0,v1,v2,x0,x1,m2⟩ (fun hHeld=> ?_)
    refine wpAnyH_take (i:=0) (oi:=_) (v:=?_) rfl (by decide+kernel) (by decide+kernel) (by decide+kernel) (fun _ _ _ h=>h) (Or.inl ⟨by rfl,?_⟩) (by assumption) ?_
    rotate_left
    ·(intro w hSw;(try dsimp only at hSw);go_simp<;>with_reducible rfl)
    (try simp only[Act.put,List.setIfInBounds_toArray,List.set_cons_zero,List.set_cons_succ])
    refine wpAnyH_take (i:=1) (oi:=_) (v:=?_) rfl (by decide+kernel) (by decide+kernel) (by decide+kernel) (fun _ _ _ h=>h) (Or.inl ⟨by rfl,?_⟩) (by assumption) ?_
    rotate_left
    ·(intro w hSw;(try dsimp only at hSw);go_simp<;>with_reducible rfl)
    (try simp only[Act.put,List.setIfInBounds_toArray,List.set_cons_zero,List.set_cons_succ])
    refine wpAnyH_take (i:=2) (oi:=_) (v:=?_) rfl (by decide+kernel) (by decide+kernel) (by decide+kernel) (fun _ _ _ h=>h) (Or.inl ⟨by rfl,?_⟩) (by assumption) ?_
    rotate_left
    ·(intro w hSw;(try dsimp only at hSw);go_simp<;>with_reducible rfl)
    (try simp only[Act.put,List.setIfInBounds_toArray,List.set_cons_zero,List.set_cons_succ])
    refine wpAnyH_take (i:=3) (oi:=_) (v:=?_) rfl (by decide+kernel) (by decide+kernel) (by decide+kernel) (fun _ _ _ h=>h) (Or.inl ⟨by rfl,?_⟩) (by assumption) ?_
    rotate_left
    ·(intro w hSw;(try dsimp only at hSw);go_simp<;>with_reducible rfl)
    (try simp only[Act.put,List.setIfInBounds_toArray,List.set_cons_zero,List.set_cons_succ])
    refine wpAnyH_ready (rs:=[4]) (by decide+kernel) (by simp) ?_
    refine AllReadyH.cons (o:=_) rfl (fun K hK=> ?_) AllReadyH.nil
    (go_simp;go_at_call 174;refine (HSH.out _).mono ?_;rintro e1 w5 ⟨rfl,hb5⟩;have hb5':Below wc.heap.size wc w5:=below_then hb5 (Below.refl _ _).drew;have v0':=(hb5'.cell (p:=⟨gb,0,none⟩) (by dsimp only;omega)).trans v0;have v1':=(hb5'.cell (p:=⟨gb,1,none⟩) (by dsimp only;omega)).trans v1;have v2':=(hb5'.cell (p:=⟨gb,2,none⟩) (by dsimp only;omega)).trans v2;have x0':=(hb5'.cell (p:=⟨gx,0,none⟩) (by dsimp only;omega)).trans x0;have x1':=(hb5'.cell (p:=⟨gx,1,none⟩) (by dsimp only;omega)).trans x1;have m2':=(hb5'.cell (p:=⟨w.heap.size,2,none⟩) (by dsimp only;omega)).trans m2;have HI5:=hid (HI4.out.later hb5');have HM5:=hid (rEntries.keep HM4.out fun q hq=>hb5'.block q (by omega));have hs5:=hb5'.size;obtain⟨z0,z1,z2,lz⟩:=m3_blk HI5.out.rb;have g0:=HI5.out.rb.free 0;have g1:=HI5.out.rb.free 1;have g2:=HI5.out.rb.free 2;obtain⟨q0,q1,q2,q3,lq⟩:=f_blk HI5.out.fb;have hbl5:=HI5.out.bl;clear hb5;(try dsimp only))
    refine hK.out _ _ ?_ (fun hHeld=> ?_)
    ·((try dsimp only);refine⟨?_,?_,?_,?_,?_,?_⟩<;>(first | with_reducible assumption | (repeat (first | with_reducible assumption | refine (World.cell?_setCell_far _ _ _ _ (by dsimp only;omega)).trans ?_)) | (go_keep;done)))
    clear hK K
    (try simp only[Act.put,List.setIfInBounds_toArray,List.set_cons_zero,List.set_cons_succ])
    refine wpAnyH_ready (rs:=[5]) (by decide+kernel) (by simp) ?_
    refine AllReadyH.cons (o:=_) rfl (fun K hK=> ?_) AllReadyH.nil
    go_simp
    refine hK.out _ _ ?_ (fun hHeld=> ?_)
    ·((try dsimp only);refine⟨?_,?_,?_,?_,?_,?_⟩<;>(first | with_reducible assumption | (repeat (first | with_reducible assumption | refine (World.cell?_setCell_far _ _ _ _ (by dsimp only;omega)).trans ?_)) | (go_keep;done)))
    clear hK K
    (try simp only[Act.put,List.setIfInBounds_toArray,List.set_cons_zero,List.set_cons_succ])
    refine wpAnyH_ready (rs:=[6]) (by decide+kernel) (by simp) ?_
    refine AllReadyH.cons (o:=_) rfl (fun K hK=> ?_) AllReadyH.nil
    go_simp
    refine hK.out _ _ ?_ (fun hHeld=> ?_)
    ·((try dsimp only);refine⟨?_,?_,?_,?_,?_,?_⟩<;>(first | with_reducible assumption | (repeat (first | with_reducible assumption | refine (World.cell?_setCell_far _ _ _ _ (by dsimp only;omega)).trans ?_)) | (go_keep;done)))
    clear hK K
    (try simp only[Act.put,List.setIfInBounds_toArray,List.set_cons_zero,List.set_cons_succ])
    (try simp only[List.getElem_toArray,List.getElem_cons_zero,List.getElem_cons_succ,Act.put,List.setIfInBounds_toArray,List.set_cons_zero,List.set_cons_succ])
    refine wpAnyH_done (by kernel_rfl) ?_ _
    go_wp2_with fail
    refine bodyPost_ret (v:=.tuple #[.agg #[.int .u64 b.epoch,.int .u64 b.base,.slice a1 b.entries.length c1],.agg #[.int .i64 kr,.int .i64 fr]]) (by simp[results,Tryz.results121,go_sem,z0,z1,z2,lz,q0,q1,lq]) rfl ⟨_,rfl,?_,by (repeat (first | with_reducible exact Below.refl _ _ | with_reducible assumption | (with_reducible refine below_alloc ?_ _) | (with_reducible refine Below.setCell ?_ (by first | omega | (simp;done) | (simp;omega)) _) | (with_reducible refine Below.drew ?_) | (with_reducible refine below_drewN ?_ _) | (refine below_then (by with_reducible assumption) ?_)))⟩
    exact rEntries.mono (rEntries.keep HM5.out fun q hq=>by repeat (rw[Below.heap_setCell _ _ _ _ (by dsimp only;omega)])) fun q hq=>⟨by omega,by simp[World.setCell];omega⟩
theorem foot_told{f:FootD}{l:List MarkD}:decide (f=footM f.ep l f.at_ f.size)=(decide (f.n=l.length)&&(decide (f.en=countM l)&&(decide (f.first=(endsM l).1)&&decide (f.fin=(endsM l).2)))):=by
 rw[Bool.eq_iff_iff]
 simp only[Bool.and_eq_true,decide_eq_true_eq]
 obtain⟨ep,n,en,fi,fe,a,s⟩:=f
 simp[footM]
theorem lookup_told(f:FootD)(l:List MarkD)(al:Option Addr)(nl cl:Nat)(w:World)(hl:rMarks.r (·<w.heap.size) w [.slice al nl cl] l)(hR:marksR l=true):
  Calls Tryz.prog 232 #[.agg f.val,.slice al nl cl] w fun r w'=>r=.returned (.bool (decide (f=footM f.ep l f.at_ f.size)))∧Below w.heap.size w w':=by
 obtain⟨rfl,hm,_,_⟩:=sl_len hl
 rw[foot_told]
 have HEN:=hid (fun (W:World) (hW:Below w.heap.size w W)=>index_ends W l al _ cl (lift hl hW) hR)
 have HEE:=hid (fun (W:World) (hW:Below w.heap.size w W)=>index_entries W l al _ cl (lift hl hW) hR)
 obtain⟨ep,fn,en,fi,fe,fa,fs⟩:=f
 dsimp only[FootD.val]
 generalize endsM l=E at*
 obtain⟨E1,E2⟩:=E
 generalize countM l=C at*
 generalize l.length=L at*
 dsimp only at*
 clear hl hR
 have B0:Blk (w.alloc (.cells #[.int .u64 ep,.int .i64 fn,.int .i64 en,.int .u64 fi,.int .u64 fe,.int .i64 fa,.int .i64 fs] 152)) w.heap.size 152 #[.int .u64 ep,.int .i64 fn,.int .i64 en,.int .u64 fi,.int .u64 fe,.int .i64 fa,.int .i64 fs]:=by (repeat (first | assumption | exact Blk.newAt _ _ _ (by first | (simp;done) | (simp;omega)) | refine Blk.alloc ?_ _ | refine Blk.drew ?_ | refine Blk.drewN ?_ _ | refine Blk.far ?_ (by first | (simp;done) | (simp;omega)) _))
 have hb0:Below w.heap.size w (w.alloc (.cells #[.int .u64 ep,.int .i64 fn,.int .i64 en,.int .u64 fi,.int .u64 fe,.int .i64 fa,.int .i64 fs] 152)):=by (repeat (first | with_reducible exact Below.refl _ _ | with_reducible assumption | (with_reducible refine below_alloc ?_ _) | (with_reducible refine Below.setCell ?_ (by first | omega | (simp;done) | (simp;omega)) _) | (with_reducible refine Below.drew ?_) | (with_reducible refine below_drewN ?_ _) | (refine below_then (by with_reducible assumption) ?_)))
 have HB0:=hid B0
 clear B0
 obtain⟨RES,hRES⟩:∃RES,RES=(decide (fn=(L:Int))&&(decide (en=C)&&(decide (fi=E1)&&decide (fe=E2)))):=⟨_,rfl⟩
 rw[←hRES]
 have HRES:=hid hRES
 clear hRES
 by_cases q0:fn=(L:Int)
 ·have dq0:(fn==(L:Int))=true:=(by simp[q0]);have eq0:=hid (decide_eq_true q0);clear q0
  by_cases q1:en=C
  ·have dq1:(en==C)=true:=(by simp[q1]);have eq1:=hid (decide_eq_true q1);clear q1
   by_cases q2:fi=E1
   ·have dq2:(fi==E1)=true:=(by simp[q2]);have eq2:=hid (decide_eq_true q2);clear q2
    by_cases q3:fe=E2
    ·have dq3:(fe==E2)=true:=(by simp[q3]);have eq3:=hid (decide_eq_true q3);clear q3
     go_enter Tryz.func232,Tryz.ntmps232
     go_upto_region 1 with (fail)
     generalize (w.alloc (.cells #[.int .u64 ep,.int .i64 fn,.int .i64 en,.int .u64 fi,.int .u64 fe,.int .i64 fa,.int .i64 fs] 152))=w0 at*
     go_wp2_with fail
     refine (HEN.out _ hb0).mono ?_
     rintro r w1 ⟨rfl,hb1⟩
     have B1:=HB0.out.later hb1
     have hbw1:=below_then hb1 hb0
     have HE:=hid (fun s:Later w1=>HEE.out s.at_ (below_then s.below hbw1))
     have X1:=fun s:Later w1=>s.cell (B1.cell 1)
     have X2:=fun s:Later w1=>s.cell (B1.cell 2)
     have X3:=fun s:Later w1=>s.cell (B1.cell 3)
     have X4:=fun s:Later w1=>s.cell (B1.cell 4)
     simp at X1 X2 X3 X4
     clear B1 HB0 hb1 HEN HEE
     go_upto_region 2 with (fail)
     refine wp_region_later (by kernel_rfl) (by kernel_rfl) ?_
     repeat (go_big_quiet_step ((go_at_call 330;with_reducible exact later_of (HE.out _))))
     refine wpQuiet_nil ?_
     rintro W5 ⟨⟨W5',hb5⟩,rfl⟩
     go_wp2_with fail
     go_ret
     exact⟨congrArg (fun q=>Ending.returned (Value.bool q)) (Eq.symm (by rw[HRES.out,eq0.out,eq1.out,eq2.out,eq3.out];rfl)),below_then hb5 hbw1⟩
    ·have dq3:(fe==E2)=false:=(by simp[q3]);have eq3:=hid (decide_eq_false q3);clear q3
     go_enter Tryz.func232,Tryz.ntmps232
     go_upto_region 1 with (fail)
     generalize (w.alloc (.cells #[.int .u64 ep,.int .i64 fn,.int .i64 en,.int .u64 fi,.int .u64 fe,.int .i64 fa,.int .i64 fs] 152))=w0 at*
     go_wp2_with fail
     refine (HEN.out _ hb0).mono ?_
     rintro r w1 ⟨rfl,hb1⟩
     have B1:=HB0.out.later hb1
     have hbw1:=below_then hb1 hb0
     have HE:=hid (fun s:Later w1=>HEE.out s.at_ (below_then s.below hbw1))
     have X1:=fun s:Later w1=>s.cell (B1.cell 1)
     have X2:=fun s:Later w1=>s.cell (B1.cell 2)
     have X3:=fun s:Later w1=>s.cell (B1.cell 3)
     have X4:=fun s:Later w1=>s.cell (B1.cell 4)
     simp at X1 X2 X3 X4
     clear B1 HB0 hb1 HEN HEE
     go_upto_region 2 with (fail)
     refine wp_region_later (by kernel_rfl) (by kernel_rfl) ?_
     repeat (go_big_quiet_step ((go_at_call 330;with_reducible exact later_of (HE.out _))))
     refine wpQuiet_nil ?_
     rintro W5 ⟨⟨W5',hb5⟩,rfl⟩
     go_wp2_with fail
     go_ret
     exact⟨congrArg (fun q=>Ending.returned (Value.bool q)) (Eq.symm (by rw[HRES.out,eq0.out,eq1.out,eq2.out,eq3.out];rfl)),below_then hb5 hbw1⟩
   ·have dq2:(fi==E1)=false:=(by simp[q2]);have eq2:=hid (decide_eq_false q2);clear q2
    go_enter Tryz.func232,Tryz.ntmps232
    go_upto_region 1 with (fail)
    generalize (w.alloc (.cells #[.int .u64 ep,.int .i64 fn,.int .i64 en,.int .u64 fi,.int .u64 fe,.int .i64 fa,.int .i64 fs] 152))=w0 at*
    go_wp2_with fail
    refine (HEN.out _ hb0).mono ?_
    rintro r w1 ⟨rfl,hb1⟩
    have B1:=HB0.out.later hb1
    have hbw1:=below_then hb1 hb0
    have HE:=hid (fun s:Later w1=>HEE.out s.at_ (below_then s.below hbw1))
    have X1:=fun s:Later w1=>s.cell (B1.cell 1)
    have X2:=fun s:Later w1=>s.cell (B1.cell 2)
    have X3:=fun s:Later w1=>s.cell (B1.cell 3)
    have X4:=fun s:Later w1=>s.cell (B1.cell 4)
    simp at X1 X2 X3 X4
    clear B1 HB0 hb1 HEN HEE
    go_upto_region 2 with (fail)
    refine wp_region_later (by kernel_rfl) (by kernel_rfl) ?_
    repeat (go_big_quiet_step ((go_at_call 330;with_reducible exact later_of (HE.out _))))
    refine wpQuiet_nil ?_
    rintro W5 ⟨⟨W5',hb5⟩,rfl⟩
    go_wp2_with fail
    go_ret
    exact⟨congrArg (fun q=>Ending.returned (Value.bool q)) (Eq.symm (by rw[HRES.out,eq0.out,eq1.out,eq2.out];rfl)),below_then hb5 hbw1⟩
  ·have dq1:(en==C)=false:=(by simp[q1]);have eq1:=hid (decide_eq_false q1);clear q1
   go_enter Tryz.func232,Tryz.ntmps232
   go_upto_region 1 with (fail)
   generalize (w.alloc (.cells #[.int .u64 ep,.int .i64 fn,.int .i64 en,.int .u64 fi,.int .u64 fe,.int .i64 fa,.int .i64 fs] 152))=w0 at*
   go_wp2_with fail
   refine (HEN.out _ hb0).mono ?_
   rintro r w1 ⟨rfl,hb1⟩
   have B1:=HB0.out.later hb1
   have hbw1:=below_then hb1 hb0
   have HE:=hid (fun s:Later w1=>HEE.out s.at_ (below_then s.below hbw1))
   have X1:=fun s:Later w1=>s.cell (B1.cell 1)
   have X2:=fun s:Later w1=>s.cell (B1.cell 2)
   have X3:=fun s:Later w1=>s.cell (B1.cell 3)
   have X4:=fun s:Later w1=>s.cell (B1.cell 4)
   simp at X1 X2 X3 X4
   clear B1 HB0 hb1 HEN HEE
   go_upto_region 2 with (fail)
   refine wp_region_later (by kernel_rfl) (by kernel_rfl) ?_
   repeat (go_big_quiet_step ((go_at_call 330;with_reducible exact later_of (HE.out _))))
   refine wpQuiet_nil ?_
   rintro W5 ⟨⟨W5',hb5⟩,rfl⟩
   go_wp2_with fail
   go_ret
   exact⟨congrArg (fun q=>Ending.returned (Value.bool q)) (Eq.symm (by rw[HRES.out,eq0.out,eq1.out];rfl)),below_then hb5 hbw1⟩
 ·have dq0:(fn==(L:Int))=false:=(by simp[q0]);have eq0:=hid (decide_eq_false q0);clear q0
  go_enter Tryz.func232,Tryz.ntmps232
  go_upto_region 1 with (fail)
  generalize (w.alloc (.cells #[.int .u64 ep,.int .i64 fn,.int .i64 en,.int .u64 fi,.int .u64 fe,.int .i64 fa,.int .i64 fs] 152))=w0 at*
  go_wp2_with fail
  refine (HEN.out _ hb0).mono ?_
  rintro r w1 ⟨rfl,hb1⟩
  have B1:=HB0.out.later hb1
  have hbw1:=below_then hb1 hb0
  have HE:=hid (fun s:Later w1=>HEE.out s.at_ (below_then s.below hbw1))
  have X1:=fun s:Later w1=>s.cell (B1.cell 1)
  have X2:=fun s:Later w1=>s.cell (B1.cell 2)
  have X3:=fun s:Later w1=>s.cell (B1.cell 3)
  have X4:=fun s:Later w1=>s.cell (B1.cell 4)
  simp at X1 X2 X3 X4
  clear B1 HB0 hb1 HEN HEE
  go_upto_region 2 with (fail)
  refine wp_region_later (by kernel_rfl) (by kernel_rfl) ?_
  repeat (go_big_quiet_step ((go_at_call 330;with_reducible exact later_of (HE.out _))))
  refine wpQuiet_nil ?_
  rintro W5 ⟨⟨W5',hb5⟩,rfl⟩
  go_wp2_with fail
  go_ret
  exact⟨congrArg (fun q=>Ending.returned (Value.bool q)) (Eq.symm (by rw[HRES.out,eq0.out];rfl)),below_then hb5 hbw1⟩
end Go.Proofs.YtmioakocnebceaaGreat
