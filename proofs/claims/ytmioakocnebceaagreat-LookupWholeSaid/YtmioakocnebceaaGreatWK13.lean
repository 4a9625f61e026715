/- Mini: Needed by lookupWhole_walk, part 13: texts put together by shake.py; no condition. -/
import Derived.Deep.CutBlock
import Derived.Test.YtmioakocnebceaaGreatWK12
import Derived.Laws.FloatArith
import Derived.Laws.ComplexArith
import Derived.Test.YtmioakocnebceaaGreatRows
import Derived.Test.YtmioakocnebceaaGreatWK1
import Derived.Test.YtmioakocnebceaaGreatWK5
import Derived.Test.YtmioakocnebceaaGreatWK7
import Derived.Test.YtmioakocnebceaaGreatWK3
import Derived.Test.YtmioakocnebceaaGreatWK10
import Derived.Test.YtmioakocnebceaaGreatWK8
import Derived.Test.YtmioakocnebceaaGreatWK4
import Derived.Test.YtmioakocnebceaaGreatWK11
import Derived.BigRegion
import Derived.LoopN
set_option linter.unusedVariables false
set_option linter.unusedSimpArgs false
set_option maxRecDepth 100000
set_option maxHeartbeats 6400000
namespace Go.Proofs.YtmioakocnebceaaGreat
open Go.RowKit Go.Bs Go.Maps
def placeV(p:PlaceD)(v:Value):Array Value:=#[.int .u64 p.foot.ep,.int .i64 p.foot.n,.int .i64 p.foot.en,.int .u64 p.foot.first,.int .u64 p.foot.fin,.int .i64 p.foot.at_,.int .i64 p.foot.size,.int .i64 (p.at_:Int),v]
def idxV(f:FootD)(c:List MarkD × Nat × Int × Int):Int × Int:=
 if c.2.2.1=0 then (if (c.2.1:Int)<f.size then (9,(c.2.1:Int)) else if f=footM f.ep c.1 f.at_ f.size then (0,0) else (12,0)) else (c.2.2.1,c.2.2.2)
theorem fndC_eq{f:FootD}{a:Nat}{c:List MarkD × Nat × Int × Int}:fndC f a c=if (idxV f c).1=0 then (⟨f,a,c.1⟩,0,0) else (placeZ,(idxV f c).1,(idxV f c).2+f.at_):=by
 unfold fndC idxV
 by_cases h1:c.2.2.1=0
 ·rw[if_pos h1,if_pos h1]
  by_cases h2:(c.2.1:Int)<f.size
  ·rw[if_pos h2,if_pos h2]
   rfl
  ·rw[if_neg h2,if_neg h2]
   by_cases h3:f=footM f.ep c.1 f.at_ f.size
   ·rw[if_pos h3,if_pos h3]
    rfl
   ·rw[if_neg h3,if_neg h3]
    dsimp only
    rw[if_neg (by decide),Int.zero_add]
 ·rw[if_neg h1,if_neg h1]
  dsimp only
  rw[if_neg h1]
structure FnI(w W:World):Prop where
 rb:Blk W w.heap.size 186 #[.int .u64 0,.int .i64 0,.int .i64 0,.int .u64 0,.int .u64 0,.int .i64 0,.int .i64 0,.int .i64 0,.slice none 0 0]
 fb:Blk W (w.heap.size+1) 31 #[.int .i64 0,.int .i64 0]
 bl:Below w.heap.size w W
theorem FnI.later{w W W':World}(h:FnI w W)(hb:Below W.heap.size W W'):FnI w W':=⟨h.rb.later hb,h.fb.later hb,below_then hb h.bl⟩
theorem FnI.lo{w W W':World}{lo:Nat}(h:FnI w W)(hb:Below lo W W')(hl:w.heap.size+2≤lo):FnI w W':=⟨h.rb.below hb (by omega),h.fb.below hb (by omega),h.bl.trans (hb.mono (by omega))⟩
theorem p9_blk{W:World}{g:Nat}{t:TypeId}{v0 v1 v2 v3 v4 v5 v6 v7 v8:Value}(h:Blk W g t #[v0,v1,v2,v3,v4,v5,v6,v7,v8]):W.cell? ⟨g,0,none⟩=some v0∧W.cell? ⟨g,1,none⟩=some v1∧W.cell? ⟨g,2,none⟩=some v2∧W.cell? ⟨g,3,none⟩=some v3∧W.cell? ⟨g,4,none⟩=some v4∧W.cell? ⟨g,5,none⟩=some v5∧W.cell? ⟨g,6,none⟩=some v6∧W.cell? ⟨g,7,none⟩=some v7∧W.cell? ⟨g,8,none⟩=some v8∧g<W.heap.size:=
 ⟨h.cell 0,h.cell 1,h.cell 2,h.cell 3,h.cell 4,h.cell 5,h.cell 6,h.cell 7,h.cell 8,h.lt⟩
theorem p9_free{W:World}{t:TypeId}{g:Nat}{cs:Array Value}(h:Blk W g t cs):W.frozen? ⟨g,0,none⟩=false∧W.frozen? ⟨g,1,none⟩=false∧W.frozen? ⟨g,2,none⟩=false∧W.frozen? ⟨g,3,none⟩=false∧W.frozen? ⟨g,4,none⟩=false∧W.frozen? ⟨g,5,none⟩=false∧W.frozen? ⟨g,6,none⟩=false∧W.frozen? ⟨g,7,none⟩=false∧W.frozen? ⟨g,8,none⟩=false:=
 ⟨h.free 0,h.free 1,h.free 2,h.free 3,h.free 4,h.free 5,h.free 6,h.free 7,h.free 8⟩
theorem marks_none{S:Nat→Prop}{w:World}:rMarks.r S w [.slice none 0 0] []:=rSl_mk (xs:=[]) rfl (Nat.le_refl _) (Nat.zero_le _) (.inl rfl)
theorem lookup_find(w:World)(B:List UInt8)(a:Option Addr)(n c:Nat)(hl:rBytes.r (·<w.heap.size) w [.slice a n c] B)(hB:B.length≤1000000000):
  Calls Tryz.prog 119 #[.slice a n c] w fun r w'=>∃v,r=.returned (.tuple #[.agg (placeV (fnd B).1 v),.agg #[.int .i64 (fnd B).2.1,.int .i64 (fnd B).2.2]])∧rMarks.r (fun q=>w.heap.size≤q∧q<w'.heap.size) w' [v] (fnd B).1.marks∧Below w.heap.size w w':=by
 obtain⟨rfl,hmx,hcc,hcm⟩:=sl_len hl
 obtain⟨RES,hRES⟩:∃RES,RES=fnd B:=⟨_,rfl⟩
 rw[←hRES]
 unfold fnd at hRES
 dsimp only at hRES
 have HFF:=hid (fun (W:World) (hW:Below w.heap.size w W)=>footer_find W B a _ c (lift hl hW) hB)
 have hok:=footF_ok (B:=B)
 have hbad:=footF_bad (B:=B)
 generalize footF B=q at*
 obtain⟨f,at_,k,ff⟩:=q
 dsimp only at*
 simp only[FootD.val] at HFF
 have I0:FnI w ((w.alloc (.cells #[.int .u64 0,.int .i64 0,.int .i64 0,.int .u64 0,.int .u64 0,.int .i64 0,.int .i64 0,.int .i64 0,.slice none 0 0] 186)).alloc (.cells #[.int .i64 0,.int .i64 0] 31)):=⟨by (repeat (first | assumption | exact Blk.newAt _ _ _ (by first | (simp;done) | (simp;omega)) | refine Blk.alloc ?_ _ | refine Blk.drew ?_ | refine Blk.drewN ?_ _ | refine Blk.far ?_ (by first | (simp;done) | (simp;omega)) _)),by (repeat (first | assumption | exact Blk.newAt _ _ _ (by first | (simp;done) | (simp;omega)) | refine Blk.alloc ?_ _ | refine Blk.drew ?_ | refine Blk.drewN ?_ _ | refine Blk.far ?_ (by first | (simp;done) | (simp;omega)) _)),by (repeat (first | with_reducible exact Below.refl _ _ | with_reducible assumption | (with_reducible refine below_alloc ?_ _) | (with_reducible refine Below.setCell ?_ (by first | omega | (simp;done) | (simp;omega)) _) | (with_reducible refine Below.drew ?_) | (with_reducible refine below_drewN ?_ _) | (refine below_then (by with_reducible assumption) ?_)))⟩
 have hz0:w.heap.size+2≤((w.alloc (.cells #[.int .u64 0,.int .i64 0,.int .i64 0,.int .u64 0,.int .u64 0,.int .i64 0,.int .i64 0,.int .i64 0,.slice none 0 0] 186)).alloc (.cells #[.int .i64 0,.int .i64 0] 31)).heap.size:=by simp
 have HI0:=hid I0
 clear I0
 have HGD:=hid (fun (W:World)=>fault_good W k ff)
 by_cases hk:k=0
 ·subst hk
  rw[if_pos rfl] at hRES
  rw[show decide ((0:Int)=0)=true from rfl] at HGD
  obtain⟨hfr,hat,hff⟩:=hok rfl
  subst hff
  obtain⟨h0,h1,h2,h3,h4,h5,h6,h7,h8,h9⟩:=hfr
  clear hok hbad h9 h0
  by_cases hgt:(at_:Int)<f.at_+f.size
  ·rw[if_pos hgt] at hRES
   subst hRES
   have d1:decide ((at_:Int)<f.at_+f.size)=true:=decide_eq_true hgt
   have HFA:=hid (fun (W:World)=>fault_at W 3 (at_:Int) (by decide))
   clear hgt hl
   go_enter Tryz.func119,Tryz.ntmps119
   go_upto_region 1 with (fail)
   generalize ((w.alloc (.cells #[.int .u64 0,.int .i64 0,.int .i64 0,.int .u64 0,.int .u64 0,.int .i64 0,.int .i64 0,.int .i64 0,.slice none 0 0] 186)).alloc (.cells #[.int .i64 0,.int .i64 0] 31))=w0 at*
   go_wp2_with fail
   refine (HFF.out _ HI0.out.bl).mono ?_
   rintro r w1 ⟨rfl,hb1⟩
   have hgw:w.heap.size+2≤w1.heap.size:=Nat.le_trans hz0 hb1.size
   go_upto_region 2 with (fail)
   refine wp_world (fun W=>FnI w W∧Blk W w1.heap.size 152 #[.int .u64 f.ep,.int .i64 f.n,.int .i64 f.en,.int .u64 f.first,.int .u64 f.fin,.int .i64 f.at_,.int .i64 f.size]∧Blk W (w1.heap.size+1) 31 #[.int .i64 0,.int .i64 0]) ⟨HI0.out.later (hb1.trans ((by (repeat (first | with_reducible exact Below.refl _ _ | with_reducible assumption | (with_reducible refine below_alloc ?_ _) | (with_reducible refine Below.setCell ?_ (by first | omega | (simp;done) | (simp;omega)) _) | (with_reducible refine Below.drew ?_) | (with_reducible refine below_drewN ?_ _) | (refine below_then (by with_reducible assumption) ?_))):Below w1.heap.size w1 _).mono hb1.size)),by (repeat (first | assumption | exact Blk.newAt _ _ _ (by first | (simp;done) | (simp;omega)) | refine Blk.alloc ?_ _ | refine Blk.drew ?_ | refine Blk.drewN ?_ _ | refine Blk.far ?_ (by first | (simp;done) | (simp;omega)) _)),by (repeat (first | assumption | exact Blk.newAt _ _ _ (by first | (simp;done) | (simp;omega)) | refine Blk.alloc ?_ _ | refine Blk.drew ?_ | refine Blk.drewN ?_ _ | refine Blk.far ?_ (by first | (simp;done) | (simp;omega)) _))⟩ ?_
   intro w2 ⟨hI,hF,hX⟩
   have HI2:=hid hI;have HF2:=hid hF;have HX2:=hid hX
   clear hI hF hX hb1 HI0 HFF
   have hfx:w1.heap.size<w1.heap.size+1:=Nat.lt_succ_self _
   generalize w1.heap.size+1=gx at*
   generalize w1.heap.size=gf at*
   have hgw2:=hgw
   clear hgw
   obtain⟨x0,x1,x2,x3,lx⟩:=f_blk HX2.out
   go_wp2_with fail
   refine (HGD.out _).mono ?_
   rintro r w3 ⟨rfl,hb3⟩
   have HI:=hid (HI2.out.later hb3)
   have HF:=hid (HF2.out.later hb3)
   have HX:=hid (HX2.out.later hb3)
   clear x0 x1 x2 x3 lx HI2 HF2 HX2 hb3 HGD
   have y5:=HF.out.cell 5
   have y6:=HF.out.cell 6
   simp at y5 y6
   obtain⟨x0,x1,x2,x3,lx⟩:=f_blk HX.out
   obtain⟨y0,y1,y2,y3,y4,y5',y6',ly⟩:=f7_blk (show Blk w3 gf 152 #[.int .u64 f.ep,.int .i64 f.n,.int .i64 f.en,.int .u64 f.first,.int .u64 f.fin,.int .i64 f.at_,.int .i64 f.size] from HF.out)
   go_wp2_with fail
   refine (HFA.out _).mono ?_
   rintro r w4 ⟨rfl,hb4⟩
   have I4:=HI.out.later hb4
   obtain⟨m0,m1,m2,m3,m4,m5,m6,m7,m8,lm⟩:=p9_blk I4.rb
   obtain⟨z0,z1,z2,z3,z4,z5,z6,z7,z8⟩:=p9_free I4.rb
   obtain⟨q0,q1,q2,q3,lq⟩:=f_blk I4.fb
   have hbl:=I4.bl
   clear I4
   go_wp2_with fail
   all_goals refine bodyPost_ret (v:=.tuple #[.agg #[.int .u64 0,.int .i64 0,.int .i64 0,.int .u64 0,.int .u64 0,.int .i64 0,.int .i64 0,.int .i64 0,.slice none 0 0],.agg #[.int .i64 (3),.int .i64 ((at_:Int))]]) (by simp[results,Tryz.results119,go_sem,placeV,m0,m1,m2,m3,m4,m5,m6,m7,m8,q0,q1,lm,lq]) rfl ⟨_,rfl,marks_none,by (repeat (first | with_reducible exact Below.refl _ _ | with_reducible assumption | (with_reducible refine below_alloc ?_ _) | (with_reducible refine Below.setCell ?_ (by first | omega | (simp;done) | (simp;omega)) _) | (with_reducible refine Below.drew ?_) | (with_reducible refine below_drewN ?_ _) | (refine below_then (by with_reducible assumption) ?_)))⟩
  ·rw[if_neg hgt] at hRES
   have d1:decide ((at_:Int)<f.at_+f.size)=false:=decide_eq_false hgt
   obtain⟨lo,hlo⟩:∃lo:Nat,(lo:Int)=f.at_:=⟨f.at_.toNat,by omega⟩
   obtain⟨hi,hhi⟩:∃hi:Nat,(hi:Int)=f.at_+f.size:=⟨(f.at_+f.size).toNat,by omega⟩
   rw[show (f.at_+f.size).toNat=hi by omega,show f.at_.toNat=lo by omega,show (B.take hi).drop lo=(B.drop lo).take (hi-lo) from List.drop_take ..] at hRES
   obtain⟨aD,cD,hsl,hsub⟩:=cut_bytes hl (lo:=lo) (hi:=hi) (by omega) (by omega)
   have hDl:((B.drop lo).take (hi-lo)).length=hi-lo:=by simp;omega
   generalize (B.drop lo).take (hi-lo)=D at*
   rw[←hDl] at hsl hsub
   rw[hlo,hhi] at hsl
   have HCM:=hid (fun (W:World) (hW:Below w.heap.size w W)=>content_marks W D aD _ cD (lift hsub hW) (by omega))
   rw[fndC_eq] at hRES
   obtain⟨hin1,hin2,hin3,hin4⟩:=idxC_in (D:=D) (by omega)
   have hmr:=idxC_right (D:=D)
   generalize hX:idxC D=X at*
   obtain⟨M,nn,ck,cf⟩:=X
   dsimp only at*
   have hidv:(ck≠0→idxV f (M,nn,ck,cf)=(ck,cf))∧(ck=0→(nn:Int)<f.size→idxV f (M,nn,ck,cf)=(9,(nn:Int)))∧(ck=0→¬(nn:Int)<f.size→f=footM f.ep M f.at_ f.size→idxV f (M,nn,ck,cf)=(0,0))∧(ck=0→¬(nn:Int)<f.size→¬f=footM f.ep M f.at_ f.size→idxV f (M,nn,ck,cf)=(12,0)):=by
    unfold idxV
    dsimp only
    refine⟨fun h=>if_neg h,fun h h'=>by rw[if_pos h,if_pos h'],fun h h' h''=>by rw[if_pos h,if_neg h',if_pos h''],fun h h' h''=>by rw[if_pos h,if_neg h',if_neg h'']⟩
   have hvin: -100000000000≤(idxV f (M,nn,ck,cf)).2∧(idxV f (M,nn,ck,cf)).2≤100000000000:=by
    by_cases g1:ck=0
    ·by_cases g2:(nn:Int)<f.size
     ·rw[hidv.2.1 g1 g2];dsimp only;omega
     ·by_cases g3:f=footM f.ep M f.at_ f.size
      ·rw[hidv.2.2.1 g1 g2 g3];dsimp only;omega
      ·rw[hidv.2.2.2 g1 g2 g3];dsimp only;omega
    ·rw[hidv.1 g1];dsimp only;omega
   generalize idxV f (M,nn,ck,cf)=V at*
   obtain⟨ik,iff⟩:=V
   dsimp only at*
   have HIDV:=hid hidv
   have HRES:=hid hRES
   have HTD:=hid (fun (W:World) (am:Option Addr) (nm cm:Nat) (h:rMarks.r (·<W.heap.size) W [.slice am nm cm] M)=>lookup_told f M am nm cm W h hmr)
   simp only[FootD.val] at HTD
   have HGK:=hid (fun (W:World)=>fault_good W ck cf)
   have HGI:=hid (fun (W:World)=>fault_good W ik iff)
   have hfaB:f.at_≤(B.length:Int):=by omega
   have HSH:=hid (fun (W:World) (g:ik≠0)=>fault_shift W ik iff f.at_ g (by omega) (by omega))
   have HF9:=hid (fun (W:World)=>fault_at W 9 (nn:Int) (by decide))
   have HF12:=hid (fun (W:World)=>fault_at W 12 0 (by decide))
   have hltn:f.at_≤f.at_+f.size:=by omega
   have HZ4:=hid hin4
   clear hgt hl hX hidv hRES hsub hDl hmr hin1 hin2 hin3 hin4 hlo hhi
   go_enter Tryz.func119,Tryz.ntmps119
   go_upto_region 1 with (fail)
   generalize ((w.alloc (.cells #[.int .u64 0,.int .i64 0,.int .i64 0,.int .u64 0,.int .u64 0,.int .i64 0,.int .i64 0,.int .i64 0,.slice none 0 0] 186)).alloc (.cells #[.int .i64 0,.int .i64 0] 31))=w0 at*
   go_wp2_with fail
   refine (HFF.out _ HI0.out.bl).mono ?_
   rintro r w1 ⟨rfl,hb1⟩
   have hgw:w.heap.size+2≤w1.heap.size:=Nat.le_trans hz0 hb1.size
   go_upto_region 2 with (fail)
   refine wp_world (fun W=>FnI w W∧Blk W w1.heap.size 152 #[.int .u64 f.ep,.int .i64 f.n,.int .i64 f.en,.int .u64 f.first,.int .u64 f.fin,.int .i64 f.at_,.int .i64 f.size]∧Blk W (w1.heap.size+1) 31 #[.int .i64 0,.int .i64 0]) ⟨HI0.out.later (hb1.trans ((by (repeat (first | with_reducible exact Below.refl _ _ | with_reducible assumption | (with_reducible refine below_alloc ?_ _) | (with_reducible refine Below.setCell ?_ (by first | omega | (simp;done) | (simp;omega)) _) | (with_reducible refine Below.drew ?_) | (with_reducible refine below_drewN ?_ _) | (refine below_then (by with_reducible assumption) ?_))):Below w1.heap.size w1 _).mono hb1.size)),by (repeat (first | assumption | exact Blk.newAt _ _ _ (by first | (simp;done) | (simp;omega)) | refine Blk.alloc ?_ _ | refine Blk.drew ?_ | refine Blk.drewN ?_ _ | refine Blk.far ?_ (by first | (simp;done) | (simp;omega)) _)),by (repeat (first | assumption | exact Blk.newAt _ _ _ (by first | (simp;done) | (simp;omega)) | refine Blk.alloc ?_ _ | refine Blk.drew ?_ | refine Blk.drewN ?_ _ | refine Blk.far ?_ (by first | (simp;done) | (simp;omega)) _))⟩ ?_
   intro w2 ⟨hI,hF,hX⟩
   have HI2:=hid hI;have HF2:=hid hF;have HX2:=hid hX
   clear hI hF hX hb1 HI0 HFF
   have hfx:w1.heap.size<w1.heap.size+1:=Nat.lt_succ_self _
   generalize w1.heap.size+1=gx at*
   generalize w1.heap.size=gf at*
   have hgw2:=hgw
   clear hgw
   obtain⟨x0,x1,x2,x3,lx⟩:=f_blk HX2.out
   go_wp2_with fail
   refine (HGD.out _).mono ?_
   rintro r w3 ⟨rfl,hb3⟩
   have HI:=hid (HI2.out.later hb3)
   have HF:=hid (HF2.out.later hb3)
   have HX:=hid (HX2.out.later hb3)
   clear x0 x1 x2 x3 lx HI2 HF2 HX2 hb3 HGD
   have y5:=HF.out.cell 5
   have y6:=HF.out.cell 6
   simp at y5 y6
   obtain⟨x0,x1,x2,x3,lx⟩:=f_blk HX.out
   obtain⟨y0,y1,y2,y3,y4,y5',y6',ly⟩:=f7_blk (show Blk w3 gf 152 #[.int .u64 f.ep,.int .i64 f.n,.int .i64 f.en,.int .u64 f.first,.int .u64 f.fin,.int .i64 f.at_,.int .i64 f.size] from HF.out)
   have x5:=HF.out.cell 5
   have x6:=HF.out.cell 6
   simp at x5 x6
   go_wp2_with fail
   refine (HCM.out _ HI.out.bl).mono ?_
   rintro r w5 ⟨v5,rfl,hr5,hb5⟩
   obtain⟨a5,c5,hv5,hr5',_⟩:=sl_form hr5
   simp only[List.cons.injEq,and_true] at hv5
   subst hv5
   have hgx5:gx<w3.heap.size:=HX.out.lt
   have hw3:w.heap.size≤w3.heap.size:=HI.out.bl.size
   have HI5:=hid (HI.out.later hb5)
   have HF5:=hid (HF.out.later hb5)
   have HX5:=hid (HX.out.later hb5)
   have HM5:=hid hr5'
   clear y0 y1 y2 y3 y4 y5 y6 ly x0 x1 x2 x3 lx x5 x6 HI HF HX hr5 hr5' hb5 HCM
   obtain⟨x0,x1,x2,x3,lx⟩:=f_blk HX5.out
   go_upto_block 0 with (fail)
   refine wp_world (fun W=>FnI w W∧Blk W gf 152 #[.int .u64 f.ep,.int .i64 f.n,.int .i64 f.en,.int .u64 f.first,.int .u64 f.fin,.int .i64 f.at_,.int .i64 f.size]∧Blk W gx 31 #[.int .i64 ck,.int .i64 cf]∧rMarks.r (fun q=>w3.heap.size≤q∧q<w5.heap.size) W [.slice a5 M.length c5] M∧w5.heap.size≤W.heap.size) ⟨HI5.out.lo (lo:=gx) (by (repeat (first | with_reducible exact Below.refl _ _ | with_reducible assumption | (with_reducible refine below_alloc ?_ _) | (with_reducible refine Below.setCell ?_ (by first | omega | (simp;done) | (simp;omega)) _) | (with_reducible refine Below.drew ?_) | (with_reducible refine below_drewN ?_ _) | (refine below_then (by with_reducible assumption) ?_)))) (by omega),Blk.far (Blk.far HF5.out (by dsimp only;omega) _) (by dsimp only;omega) _,(HX5.out.set 0 _).set 1 _,rMarks.keep HM5.out fun q hq=>by repeat (rw[Below.heap_setCell _ _ _ _ (by dsimp only;omega)]),by simp[World.setCell]⟩ ?_
   intro w6 ⟨hI6,hF6,hX6,hM6,hz6⟩
   have HI6:=hid hI6;have HF6:=hid hF6;have HX6:=hid hX6;have HM6:=hid hM6
   clear hI6 hF6 hX6 hM6 HI5 HF5 HX5 HM5 x0 x1 x2 x3 lx
   go_cut [] from 42 to 58 (fun V=>Hid (FnI w V∧Blk V gf 152 #[.int .u64 f.ep,.int .i64 f.n,.int .i64 f.en,.int .u64 f.first,.int .u64 f.fin,.int .i64 f.at_,.int .i64 f.size]∧Blk V gx 31 #[.int .i64 ik,.int .i64 iff]∧rMarks.r (fun q=>w3.heap.size≤q∧q<w5.heap.size) V [.slice a5 M.length c5] M∧w5.heap.size≤V.heap.size))
   case first=>
    obtain⟨x0,x1,x2,x3,lx⟩:=f_blk HX6.out
    go_wp2_with fail
    refine (HGK.out _).mono ?_
    rintro r w7 ⟨rfl,hb7⟩
    have HI7:=hid (HI6.out.later hb7)
    have HF7:=hid (HF6.out.later hb7)
    have HX7:=hid (HX6.out.later hb7)
    have HM7:=hid (rMarks.keep HM6.out fun q hq=>hb7.block q (Nat.lt_of_lt_of_le hq.2 hz6))
    have hz7:=Nat.le_trans hz6 hb7.size
    clear HI6 HF6 HX6 HM6 hb7 HGK x0 x1 x2 x3 lx
    by_cases g1:ck=0
    ·subst g1
     have y6:=HF7.out.cell 6
     simp at y6
     by_cases g2:(nn:Int)<f.size
     ·have dg2:decide ((nn:Int)<f.size)=true:=decide_eq_true g2
      have e:=HIDV.out.2.1 rfl g2
      simp only[Prod.mk.injEq] at e
      obtain⟨rfl,rfl⟩:=e
      clear g2
      go_wp2_with fail
      refine (HF9.out _).mono ?_
      rintro r w8 ⟨rfl,hb8⟩
      have HI8:=hid (HI7.out.later hb8)
      have HF8:=hid (HF7.out.later hb8)
      have HX8:=hid (HX7.out.later hb8)
      have HM8:=hid (rMarks.keep HM7.out fun q hq=>hb8.block q (Nat.lt_of_lt_of_le hq.2 hz7))
      have hz8:=Nat.le_trans hz7 hb8.size
      clear y6 hb8
      obtain⟨x0,x1,x2,x3,lx⟩:=f_blk HX8.out
      go_wp2_with fail
      go_meet
      case rel=>exact hid ⟨HI8.out.lo (lo:=gx) (by (repeat (first | with_reducible exact Below.refl _ _ | with_reducible assumption | (with_reducible refine below_alloc ?_ _) | (with_reducible refine Below.setCell ?_ (by first | omega | (simp;done) | (simp;omega)) _) | (with_reducible refine Below.drew ?_) | (with_reducible refine below_drewN ?_ _) | (refine below_then (by with_reducible assumption) ?_)))) (by omega),Blk.far (Blk.far HF8.out (by dsimp only;omega) _) (by dsimp only;omega) _,(HX8.out.set 0 _).set 1 _,rMarks.keep HM8.out fun q hq=>by repeat (rw[Below.heap_setCell _ _ _ _ (by dsimp only;omega)]),by simp[World.setCell];omega⟩
     ·have dg2:decide ((nn:Int)<f.size)=false:=decide_eq_false g2
      by_cases g3:f=footM f.ep M f.at_ f.size
      ·rw[decide_eq_true g3] at HTD
       have e:=HIDV.out.2.2.1 rfl (by first | exact g2 | exact Int.not_lt.1 g2) g3
       simp only[Prod.mk.injEq] at e
       obtain⟨rfl,rfl⟩:=e
       have HCF:=hid (HZ4.out rfl)
       clear g2 g3
       obtain⟨y0,y1,y2,y3,y4,y5,y6',ly⟩:=f7_blk (show Blk w7 gf 152 #[.int .u64 f.ep,.int .i64 f.n,.int .i64 f.en,.int .u64 f.first,.int .u64 f.fin,.int .i64 f.at_,.int .i64 f.size] from HF7.out)
       go_wp2_with fail
       refine (HTD.out w7 a5 _ c5 (rMarks.mono HM7.out fun q hq=>Nat.lt_of_lt_of_le hq.2 hz7)).mono ?_
       rintro r w8 ⟨rfl,hb8⟩
       have HI8:=hid (HI7.out.later hb8)
       have HF8:=hid (HF7.out.later hb8)
       have HX8:=hid (HX7.out.later hb8)
       have HM8:=hid (rMarks.keep HM7.out fun q hq=>hb8.block q (Nat.lt_of_lt_of_le hq.2 hz7))
       have hz8:=Nat.le_trans hz7 hb8.size
       clear y0 y1 y2 y3 y4 y5 y6' y6 ly hb8 HI7 HF7 HX7 HM7
       go_wp2_with fail
       go_meet
       case rel=>exact hid ⟨HI8.out,HF8.out,(by have:=HX8.out;rw[HCF.out] at this;exact this),HM8.out,hz8⟩
      ·rw[decide_eq_false g3] at HTD
       have e:=HIDV.out.2.2.2 rfl (by first | exact g2 | exact Int.not_lt.1 g2) g3
       simp only[Prod.mk.injEq] at e
       obtain⟨rfl,rfl⟩:=e
       clear g2 g3
       obtain⟨y0,y1,y2,y3,y4,y5,y6',ly⟩:=f7_blk (show Blk w7 gf 152 #[.int .u64 f.ep,.int .i64 f.n,.int .i64 f.en,.int .u64 f.first,.int .u64 f.fin,.int .i64 f.at_,.int .i64 f.size] from HF7.out)
       go_wp2_with fail
       refine (HTD.out w7 a5 _ c5 (rMarks.mono HM7.out fun q hq=>Nat.lt_of_lt_of_le hq.2 hz7)).mono ?_
       rintro r w8 ⟨rfl,hb8⟩
       have HI8:=hid (HI7.out.later hb8)
       have HF8:=hid (HF7.out.later hb8)
       have HX8:=hid (HX7.out.later hb8)
       have HM8:=hid (rMarks.keep HM7.out fun q hq=>hb8.block q (Nat.lt_of_lt_of_le hq.2 hz7))
       have hz8:=Nat.le_trans hz7 hb8.size
       clear y0 y1 y2 y3 y4 y5 y6' y6 ly hb8 HI7 HF7 HX7 HM7
       obtain⟨x0,x1,x2,x3,lx⟩:=f_blk HX8.out
       go_wp2_with fail
       refine (HF12.out _).mono ?_
       rintro r w9 ⟨rfl,hb9⟩
       have HI9:=hid (HI8.out.later hb9)
       have HF9':=hid (HF8.out.later hb9)
       have HX9:=hid (HX8.out.later hb9)
       have HM9:=hid (rMarks.keep HM8.out fun q hq=>hb9.block q (Nat.lt_of_lt_of_le hq.2 hz8))
       have hz9:=Nat.le_trans hz8 hb9.size
       clear HI8 HF8 HX8 HM8 x0 x1 x2 x3 lx
       have HI8:=HI9;have HF8:=HF9';have HX8:=HX9;have HM8:=HM9;have hz8:=hz9
       obtain⟨x0,x1,x2,x3,lx⟩:=f_blk HX8.out
       go_wp2_with fail
       go_meet
       case rel=>exact hid ⟨HI8.out.lo (lo:=gx) (by (repeat (first | with_reducible exact Below.refl _ _ | with_reducible assumption | (with_reducible refine below_alloc ?_ _) | (with_reducible refine Below.setCell ?_ (by first | omega | (simp;done) | (simp;omega)) _) | (with_reducible refine Below.drew ?_) | (with_reducible refine below_drewN ?_ _) | (refine below_then (by with_reducible assumption) ?_)))) (by omega),Blk.far (Blk.far HF8.out (by dsimp only;omega) _) (by dsimp only;omega) _,(HX8.out.set 0 _).set 1 _,rMarks.keep HM8.out fun q hq=>by repeat (rw[Below.heap_setCell _ _ _ _ (by dsimp only;omega)]),by simp[World.setCell];omega⟩
    ·have dg1:decide (ck=0)=false:=decide_eq_false g1
     have e:=HIDV.out.1 g1
     simp only[Prod.mk.injEq] at e
     obtain⟨rfl,rfl⟩:=e
     clear g1
     go_wp2_with fail
     go_meet
     case rel=>exact hid ⟨HI7.out,HF7.out,HX7.out,HM7.out,hz7⟩
   case rest=>
    obtain⟨hI8,hF8,hX8,hM8,hz8⟩:=hcut.out
    have HI8:=hid hI8;have HF8:=hid hF8;have HX8:=hid hX8;have HM8:=hid hM8
    clear hcut hI8 hF8 hX8 hM8 HI6 HF6 HX6 HM6 HTD HF9 HF12 HIDV hz6 HGK
    obtain⟨x0,x1,x2,x3,lx⟩:=f_blk HX8.out
    have hres:=HRES.out
    by_cases g:ik=0
    ·rw[if_pos g] at hres
     rw[decide_eq_true g] at HGI
     subst hres
     clear g HRES
     go_wp2_with fail
     refine (HGI.out _).mono ?_
     rintro r w9 ⟨rfl,hb9⟩
     have I4:=HI8.out.later hb9
     have F9:=HF8.out.later hb9
     have M9:=rMarks.keep HM8.out fun q hq=>hb9.block q (Nat.lt_of_lt_of_le hq.2 hz8)
     have hz9:=Nat.le_trans hz8 hb9.size
     obtain⟨y0,y1,y2,y3,y4,y5,y6,ly⟩:=f7_blk F9
     clear x0 x1 x2 x3 lx F9
     obtain⟨m0,m1,m2,m3,m4,m5,m6,m7,m8,lm⟩:=p9_blk I4.rb
     obtain⟨z0,z1,z2,z3,z4,z5,z6,z7,z8⟩:=p9_free I4.rb
     obtain⟨q0,q1,q2,q3,lq⟩:=f_blk I4.fb
     have hbl:=I4.bl
     clear I4
     go_wp2_with fail
     all_goals refine bodyPost_ret (v:=.tuple #[.agg (placeV ⟨f,at_,M⟩ (.slice a5 M.length c5)),.agg #[.int .i64 (0),.int .i64 (0)]]) (by simp[results,Tryz.results119,go_sem,placeV,m0,m1,m2,m3,m4,m5,m6,m7,m8,q0,q1,lm,lq]) rfl ⟨_,rfl,rMarks.mono (rMarks.keep M9 fun q hq=>by repeat (rw[Below.heap_setCell _ _ _ _ (by dsimp only;omega)])) fun q hq=>⟨by omega,by simp[World.setCell];omega⟩,by (repeat (first | with_reducible exact Below.refl _ _ | with_reducible assumption | (with_reducible refine below_alloc ?_ _) | (with_reducible refine Below.setCell ?_ (by first | omega | (simp;done) | (simp;omega)) _) | (with_reducible refine Below.drew ?_) | (with_reducible refine below_drewN ?_ _) | (refine below_then (by with_reducible assumption) ?_)))⟩
    ·rw[if_neg g] at hres
     rw[decide_eq_false g] at HGI
     subst hres
     clear HRES
     have y5:=HF8.out.cell 5
     simp at y5
     go_wp2_with fail
     refine (HGI.out _).mono ?_
     rintro r w9 ⟨rfl,hb9⟩
     have HI9:=hid (HI8.out.later hb9)
     have HF9:=hid (HF8.out.later hb9)
     have HX9:=hid (HX8.out.later hb9)
     clear x0 x1 x2 x3 lx y5 hb9
     obtain⟨x0,x1,x2,x3,lx⟩:=f_blk HX9.out
     have y5:=HF9.out.cell 5
     simp at y5
     go_wp2_with fail
     refine (HSH.out _ g).mono ?_
     rintro r w10 ⟨rfl,hb10⟩
     have I4:=HI9.out.later hb10
     clear x0 x1 x2 x3 lx y5
     obtain⟨m0,m1,m2,m3,m4,m5,m6,m7,m8,lm⟩:=p9_blk I4.rb
     obtain⟨z0,z1,z2,z3,z4,z5,z6,z7,z8⟩:=p9_free I4.rb
     obtain⟨q0,q1,q2,q3,lq⟩:=f_blk I4.fb
     have hbl:=I4.bl
     clear I4
     go_wp2_with fail
     all_goals refine bodyPost_ret (v:=.tuple #[.agg #[.int .u64 0,.int .i64 0,.int .i64 0,.int .u64 0,.int .u64 0,.int .i64 0,.int .i64 0,.int .i64 0,.slice none 0 0],.agg #[.int .i64 (ik),.int .i64 (iff+f.at_)]]) (by simp[results,Tryz.results119,go_sem,placeV,m0,m1,m2,m3,m4,m5,m6,m7,m8,q0,q1,lm,lq]) rfl ⟨_,rfl,marks_none,by (repeat (first | with_reducible exact Below.refl _ _ | with_reducible assumption | (with_reducible refine below_alloc ?_ _) | (with_reducible refine Below.setCell ?_ (by first | omega | (simp;done) | (simp;omega)) _) | (with_reducible refine Below.drew ?_) | (with_reducible refine below_drewN ?_ _) | (refine below_then (by with_reducible assumption) ?_)))⟩
 ·rw[if_neg hk] at hRES
  subst hRES
  rw[decide_eq_false hk] at HGD
  obtain⟨rfl,rfl⟩:=hbad hk
  clear hl hok hbad hk
  go_enter Tryz.func119,Tryz.ntmps119
  go_upto_region 1 with (fail)
  generalize ((w.alloc (.cells #[.int .u64 0,.int .i64 0,.int .i64 0,.int .u64 0,.int .u64 0,.int .i64 0,.int .i64 0,.int .i64 0,.slice none 0 0] 186)).alloc (.cells #[.int .i64 0,.int .i64 0] 31))=w0 at*
  go_wp2_with fail
  refine (HFF.out _ HI0.out.bl).mono ?_
  rintro r w1 ⟨rfl,hb1⟩
  go_upto_region 2 with (fail)
  refine wp_world (fun W=>FnI w W∧Blk W (w1.heap.size+1) 31 #[.int .i64 k,.int .i64 ff]) ⟨HI0.out.later (hb1.trans ((by (repeat (first | with_reducible exact Below.refl _ _ | with_reducible assumption | (with_reducible refine below_alloc ?_ _) | (with_reducible refine Below.setCell ?_ (by first | omega | (simp;done) | (simp;omega)) _) | (with_reducible refine Below.drew ?_) | (with_reducible refine below_drewN ?_ _) | (refine below_then (by with_reducible assumption) ?_))):Below w1.heap.size w1 _).mono hb1.size)),by (repeat (first | assumption | exact Blk.newAt _ _ _ (by first | (simp;done) | (simp;omega)) | refine Blk.alloc ?_ _ | refine Blk.drew ?_ | refine Blk.drewN ?_ _ | refine Blk.far ?_ (by first | (simp;done) | (simp;omega)) _))⟩ ?_
  intro w2 ⟨hI,hX⟩
  have HI:=hid hI;have HX:=hid hX
  have hgx:w.heap.size+2<w1.heap.size+1:=Nat.lt_succ_of_le (Nat.le_trans hz0 hb1.size)
  clear hI hX hb1 HI0 HFF
  generalize w1.heap.size+1=gx at*
  obtain⟨x0,x1,x2,x3,lx⟩:=f_blk HX.out
  go_wp2_with fail
  refine (HGD.out _).mono ?_
  rintro r w3 ⟨rfl,hb3⟩
  have I4:=HI.out.later hb3
  have X3:=HX.out.later hb3
  clear x0 x1 x2 x3 lx
  obtain⟨x0,x1,x2,x3,lx⟩:=f_blk X3
  obtain⟨m0,m1,m2,m3,m4,m5,m6,m7,m8,lm⟩:=p9_blk I4.rb
  obtain⟨z0,z1,z2,z3,z4,z5,z6,z7,z8⟩:=p9_free I4.rb
  obtain⟨q0,q1,q2,q3,lq⟩:=f_blk I4.fb
  have hbl:=I4.bl
  clear I4
  go_wp2_with fail
  go_region
  all_goals go_wp2
  all_goals refine bodyPost_ret (v:=.tuple #[.agg #[.int .u64 0,.int .i64 0,.int .i64 0,.int .u64 0,.int .u64 0,.int .i64 0,.int .i64 0,.int .i64 0,.slice none 0 0],.agg #[.int .i64 (k),.int .i64 (ff)]]) (by simp[results,Tryz.results119,go_sem,placeV,m0,m1,m2,m3,m4,m5,m6,m7,m8,q0,q1,lm,lq]) rfl ⟨_,rfl,marks_none,by (repeat (first | with_reducible exact Below.refl _ _ | with_reducible assumption | (with_reducible refine below_alloc ?_ _) | (with_reducible refine Below.setCell ?_ (by first | omega | (simp;done) | (simp;omega)) _) | (with_reducible refine Below.drew ?_) | (with_reducible refine below_drewN ?_ _) | (refine below_then (by with_reducible assumption) ?_)))⟩
end Go.Proofs.YtmioakocnebceaaGreat
namespace Fl
open Go Ieee
theorem log2_eq{n L:Nat}(h1:2^L≤n)(h2:n<2^(L+1)):n.log2=L:=by
 have h0:n≠0:=by have:=Nat.two_pow_pos L;omega
 have a:=(Nat.le_log2 h0).2 h1
 have b:=(Nat.log2_lt h0).2 h2
 omega
theorem log2_mul_pow{n:Nat}(k:Nat)(hn:n≠0):(n*2^k).log2=n.log2+k:=by
 have a:=Nat.log2_self_le hn
 have b:=@Nat.lt_log2_self n
 refine log2_eq ?_ ?_
 ·rw[Nat.pow_add];exact Nat.mul_le_mul_right _ a
 ·have e:2^(n.log2+k+1)=2^(n.log2+1)*2^k:=by rw[←Nat.pow_add];congr 1;omega
  rw[e];exact Nat.mul_lt_mul_of_pos_right b (Nat.two_pow_pos k)
theorem cut_zero(neg:Bool)(n:Nat):Toward.even.cut neg n 0=n:=by
 simp[Toward.cut,Nat.mod_one]
theorem cut_exact(neg:Bool)(n k:Nat)(hn:n≠0):Toward.even.cut neg (n*2^k) k=n:=by
 have hl:=log2_mul_pow k hn
 have hm:min k ((n*2^k).log2+2)=k:=by rw[hl];omega
 have hd:n*2^k/2^k=n:=Nat.mul_div_cancel _ (Nat.two_pow_pos k)
 have hp:=Nat.two_pow_pos k
 simp[Toward.cut,hm,Nat.one_shiftLeft,hd]
theorem cut_le(neg:Bool)(n k:Nat):Toward.even.cut neg n k≤n/2^(min k (n.log2+2))+1:=by
 simp only[Toward.cut,Nat.one_shiftLeft]
 have:∀b:Bool,b.toNat≤1:=by decide
 exact Nat.add_le_add_left (this _) _
theorem le_cut(neg:Bool)(n k:Nat):n/2^(min k (n.log2+2))≤Toward.even.cut neg n k:=by
 simp only[Toward.cut,Nat.one_shiftLeft]
 exact Nat.le_add_right _ _
abbrev D:Format:=double
theorem binade_eq:D.binade=4503599627370496:=by decide+kernel
theorem infRung_eq:D.infRung=9218868437227405312:=by decide+kernel
theorem sign_eq:D.signWeight=9223372036854775808:=by decide+kernel
theorem least_eq:D.leastPlace=-1074:=by decide+kernel
theorem frac_eq:D.fractionBits=52:=rfl
def rungOf(m:Nat):Nat:=(m.log2+1022)*4503599627370496+m*2^(52-m.log2)
theorem nearest_small(neg:Bool)(m k:Nat)(h0:m≠0)(hm:m<2^53)(hk:k≤1074):
  D.nearest neg (m*2^k) (-(k:Int))=D.word neg (rungOf m):=by
 unfold rungOf
 have hL:m.log2<53:=(Nat.log2_lt h0).2 hm
 have hmk:m*2^k≠0:=by have:=Nat.mul_pos (Nat.pos_of_ne_zero h0) (Nat.two_pow_pos k);omega
 have hl:=log2_mul_pow k h0
 have hlast:max (-(k:Int)+((m*2^k).log2:Nat)-(D.fractionBits:Nat)) D.leastPlace=(m.log2:Int)-52:=by
  rw[hl,least_eq,frac_eq];omega
 have hkept:Toward.even.cut neg ((m*2^k)<<<(-(k:Int)-((m.log2:Int)-52)).toNat) ((m.log2:Int)-52-(-(k:Int))).toNat=m*2^(52-m.log2):=by
  rcases Nat.lt_or_ge (52-m.log2) k with h | h
  ·have e1:(-(k:Int)-((m.log2:Int)-52)).toNat=0:=by omega
   have e2:((m.log2:Int)-52-(-(k:Int))).toNat=k-(52-m.log2):=by omega
   rw[e1,e2]
   have e3:m*2^k=(m*2^(52-m.log2))*2^(k-(52-m.log2)):=by
    rw[Nat.mul_assoc,←Nat.pow_add];congr 2;omega
   rw[Nat.shiftLeft_zero,e3]
   exact cut_exact _ _ _ (by have:=Nat.mul_pos (Nat.pos_of_ne_zero h0) (Nat.two_pow_pos (52-m.log2));omega)
  ·have e1:(-(k:Int)-((m.log2:Int)-52)).toNat=52-m.log2-k:=by omega
   have e2:((m.log2:Int)-52-(-(k:Int))).toNat=0:=by omega
   rw[e1,e2,cut_zero,Nat.shiftLeft_eq,Nat.mul_assoc,←Nat.pow_add]
   congr 2;omega
 unfold Format.nearest
 rw[if_neg hmk]
 simp only[hlast,hkept]
 have hlo:m*2^(52-m.log2)<2^53:=by
  have b:=@Nat.lt_log2_self m
  have:m*2^(52-m.log2)<2^(m.log2+1)*2^(52-m.log2):=Nat.mul_lt_mul_of_pos_right b (Nat.two_pow_pos _)
  rw[←Nat.pow_add] at this
  have e:m.log2+1+(52-m.log2)=53:=by omega
  rwa [e] at this
 have e4:((m.log2:Int)-52-D.leastPlace).toNat=m.log2+1022:=by rw[least_eq];omega
 rw[e4,infRung_eq,binade_eq]
 congr 1
 have:(2:Nat)^53=9007199254740992:=by decide
 rw[this] at hlo
 rw[Nat.min_eq_left]
 omega
theorem kept_bounds(m:Nat)(h0:m≠0)(hm:m<2^53):4503599627370496≤m*2^(52-m.log2)∧m*2^(52-m.log2)<9007199254740992:=by
 have hL:m.log2<53:=(Nat.log2_lt h0).2 hm
 have a:=Nat.log2_self_le h0
 have b:=@Nat.lt_log2_self m
 have e:m.log2+1+(52-m.log2)=53:=by omega
 have e':m.log2+(52-m.log2)=52:=by omega
 constructor
 ·have:2^m.log2*2^(52-m.log2)≤m*2^(52-m.log2):=Nat.mul_le_mul_right _ a
  rw[←Nat.pow_add,e'] at this
  simpa using this
 ·have:m*2^(52-m.log2)<2^(m.log2+1)*2^(52-m.log2):=Nat.mul_lt_mul_of_pos_right b (Nat.two_pow_pos _)
  rw[←Nat.pow_add,e] at this
  simpa using this
theorem read_word(neg:Bool)(E r:Nat)(hr:r<4503599627370496)(hE:E<2046):
  D.read (D.word neg ((E+1)*4503599627370496+r))=.number neg (4503599627370496+r) (-1074+(E:Nat)):=by
 unfold Format.read Format.word
 rw[sign_eq,binade_eq,infRung_eq,least_eq]
 have e1:((E+1)*4503599627370496+r)/4503599627370496=E+1:=by omega
 have e2:((E+1)*4503599627370496+r)%4503599627370496=r:=by omega
 have e3:((E+1)*4503599627370496+r)<9218868437227405312:=by omega
 cases neg
 ·have e4:((E+1)*4503599627370496+r)/9223372036854775808%2=0:=by omega
  have e5:((E+1)*4503599627370496+r)%9223372036854775808=(E+1)*4503599627370496+r:=by omega
  simp only[Bool.false_eq_true,if_false,e4,e5]
  rw[if_neg (by omega),if_pos e3,e1,e2]
  rfl
 ·have e4:(9223372036854775808+((E+1)*4503599627370496+r))/9223372036854775808%2=1:=by omega
  have e5:(9223372036854775808+((E+1)*4503599627370496+r))%9223372036854775808=(E+1)*4503599627370496+r:=by omega
  simp only[if_true,e4,e5]
  rw[if_neg (by omega),if_pos e3,e1,e2]
  rfl
def fI(n:Int):Nat:=FloatKind.f64.nearest n
theorem fI_zero:fI 0=0:=by decide+kernel
theorem fI_word(n:Int)(h0:n≠0)(h:n.natAbs<2^53):
  fI n=D.word (n<0) (rungOf n.natAbs):=by
 have:=nearest_small (decide (n<0)) n.natAbs 0 (by omega) h (by omega)
 have hz: -((0:Nat):Int)=0:=rfl
 rw[Nat.pow_zero,Nat.mul_one,hz] at this
 have e:fI n=D.nearest (decide (n<0)) n.natAbs 0:=rfl
 exact e.trans this
theorem read_fI(n:Int)(h0:n≠0)(h:n.natAbs<2^53):
  D.read (fI n)=.number (n<0) (n.natAbs*2^(52-n.natAbs.log2)) ((n.natAbs.log2:Int)-52):=by
 rw[fI_word n h0 h]
 unfold rungOf
 have hb:=kept_bounds n.natAbs (by omega) h
 have hL:n.natAbs.log2<53:=(Nat.log2_lt (by omega)).2 h
 obtain⟨r,hr⟩:∃r,n.natAbs*2^(52-n.natAbs.log2)=4503599627370496+r:=⟨n.natAbs*2^(52-n.natAbs.log2)-4503599627370496,by omega⟩
 rw[hr]
 have e:(n.natAbs.log2+1022)*4503599627370496+(4503599627370496+r)=(n.natAbs.log2+1022+1)*4503599627370496+r:=by omega
 have ep:(-1074+((n.natAbs.log2+1022:Nat):Int))=(n.natAbs.log2:Int)-52:=by omega
 rw[e,read_word _ _ _ (by omega) (by omega),ep]
theorem read_zero:D.read 0=.number false 0 (-1074):=by decide+kernel
theorem read_zero'(k:Nat)(hk:k=1074):D.read (fI 0)=.number (decide ((0:Int)<0)) (Int.natAbs 0*2^k) (-(k:Int)):=by
 rw[fI_zero,read_zero,Int.natAbs_zero,Nat.zero_mul,hk]
 rfl
theorem read_int(n:Int)(h:n.natAbs<2^53):∃k:Nat,k≤1074∧D.read (fI n)=.number (n<0) (n.natAbs*2^k) (-(k:Int)):=by
 by_cases h0:n=0
 ·subst h0
  obtain⟨k,hk⟩:∃k,k=1074:=⟨1074,rfl⟩
  exact⟨k,by omega,read_zero' k hk⟩
 ·have hL:n.natAbs.log2<53:=(Nat.log2_lt (by omega)).2 h
  refine⟨52-n.natAbs.log2,by omega,?_⟩
  rw[read_fI n h0 h]
  congr 1;omega
theorem signed_int(n:Int)(k u:Nat):signed (n<0) (n.natAbs*2^k) u=n*(2^(k+u):Nat):=by
 unfold signed
 rw[Nat.shiftLeft_eq,Nat.mul_assoc,←Nat.pow_add]
 by_cases h:n<0
 ·simp only[h,decide_true,if_true]
  rw[Int.natCast_mul,←Int.neg_mul];congr 1;omega
 ·simp only[h,decide_false,Bool.false_eq_true,if_false]
  rw[Int.natCast_mul];congr 1;omega
theorem cut_zero_way(neg:Bool)(n k:Nat):Toward.zero.cut neg (n*2^k) k=n:=by
 by_cases hn:n=0
 ·subst hn;simp[Toward.cut]
 ·have hl:=log2_mul_pow k hn
  have hm:min k ((n*2^k).log2+2)=k:=by rw[hl];omega
  have hd:n*2^k/2^k=n:=Nat.mul_div_cancel _ (Nat.two_pow_pos k)
  simp[Toward.cut,hm,Nat.one_shiftLeft,hd]
theorem toInt_fI(n:Int)(h:n.natAbs<2^53):(D.read (fI n)).toInt .zero=some n:=by
 obtain⟨k,hk1,hk⟩:=read_int n h
 rw[hk]
 simp only[Datum.toInt,Datum.integral]
 have e1:(-(k:Int)).toNat=0:=by omega
 have e2:(-(-(k:Int))).toNat=k:=by omega
 rw[e1,e2,Nat.shiftLeft_zero,cut_zero_way]
 have:=signed_int n 0 0
 simp only[Nat.pow_zero,Nat.mul_one,Nat.add_zero] at this
 rw[this]
 congr 1
 omega
theorem toIntVal_fI(n:Int)(h:n.natAbs<2^53):floatToIntVal .f64 (fI n) .i64=some n:=by
 unfold floatToIntVal
 have e:(FloatKind.f64.decode (fI n)).toInt .zero=some n:=toInt_fI n h
 rw[e]
 have h1:IntKind.i64.min=-9223372036854775808:=by decide
 have h2:IntKind.i64.max=9223372036854775807:=by decide
 have h3:(2:Nat)^53=9007199254740992:=by decide
 simp only[h1,h2]
 rw[if_pos]
 omega
theorem read_kept(L kept:Nat)(h1:53≤L)(h2:L<107)(h3:4503599627370496≤kept)(h4:kept≤9007199254740992):
  ∃j r:Nat,4503599627370496≤r∧1≤j∧D.read (D.word false ((L+1022)*4503599627370496+kept))=.number false r (j:Int):=by
 by_cases hk:kept<9007199254740992
 ·obtain⟨r,hr⟩:∃r,kept=4503599627370496+r:=⟨kept-4503599627370496,by omega⟩
  have e:(L+1022)*4503599627370496+kept=(L+1022+1)*4503599627370496+r:=by omega
  have ep:(-1074+((L+1022:Nat):Int))=((L-52:Nat):Int):=by omega
  rw[e,read_word _ _ _ (by omega) (by omega),ep]
  exact⟨L-52,4503599627370496+r,by omega,by omega,rfl⟩
 ·have e:(L+1022)*4503599627370496+kept=(L+1023+1)*4503599627370496+0:=by omega
  have ep:(-1074+((L+1023:Nat):Int))=((L-51:Nat):Int):=by omega
  rw[e,read_word _ _ _ (by omega) (by omega),ep]
  exact⟨L-51,4503599627370496+0,by omega,by omega,rfl⟩
theorem min_rung(L kept:Nat)(h2:L<107)(h4:kept≤9007199254740992):
  min ((L+1022)*4503599627370496+kept) 9218868437227405312=(L+1022)*4503599627370496+kept:=
 Nat.min_eq_left (by omega)
theorem nearest_big(m k:Nat)(h1:2^53≤m)(hL2:m.log2<107):∃j r:Nat,4503599627370496≤r∧1≤j∧
  D.read (D.nearest false (m*2^k) (-(k:Int)))=.number false r (j:Int):=by
 have h0:m≠0:=by have:=Nat.two_pow_pos 53;omega
 have hL:53≤m.log2:=(Nat.le_log2 h0).2 h1
 have hmk:m*2^k≠0:=by have:=Nat.mul_pos (Nat.pos_of_ne_zero h0) (Nat.two_pow_pos k);omega
 have hl:=log2_mul_pow k h0
 have hlast:max (-(k:Int)+((m*2^k).log2:Nat)-(D.fractionBits:Nat)) D.leastPlace=(m.log2:Int)-52:=by
  rw[hl,least_eq,frac_eq];omega
 have e1:(-(k:Int)-((m.log2:Int)-52)).toNat=0:=by omega
 have e2:((m.log2:Int)-52-(-(k:Int))).toNat=m.log2-52+k:=by omega
 have e4:((m.log2:Int)-52-D.leastPlace).toNat=m.log2+1022:=by rw[least_eq];omega
 have hmin:min (m.log2-52+k) ((m*2^k).log2+2)=m.log2-52+k:=by rw[hl];omega
 have c1:=cut_le false (m*2^k) (m.log2-52+k)
 have c2:=le_cut false (m*2^k) (m.log2-52+k)
 rw[hmin] at c1 c2
 have hdiv:m*2^k/2^(m.log2-52+k)=m/2^(m.log2-52):=by
  rw[Nat.pow_add];exact Nat.mul_div_mul_right _ _ (Nat.two_pow_pos k)
 rw[hdiv] at c1 c2
 have a:=Nat.log2_self_le h0
 have b:=@Nat.lt_log2_self m
 have d1:4503599627370496≤m/2^(m.log2-52):=by
  rw[Nat.le_div_iff_mul_le (Nat.two_pow_pos _)]
  have:(4503599627370496:Nat)=2^52:=by decide
  rw[this,←Nat.pow_add]
  have:52+(m.log2-52)=m.log2:=by omega
  rw[this];exact a
 have d2:m/2^(m.log2-52)<9007199254740992:=by
  rw[Nat.div_lt_iff_lt_mul (Nat.two_pow_pos _)]
  have:(9007199254740992:Nat)=2^53:=by decide
  rw[this,←Nat.pow_add]
  have:53+(m.log2-52)=m.log2+1:=by omega
  rw[this];exact b
 unfold Format.nearest
 rw[if_neg hmk]
 simp only[hlast,e1,e2,e4,Nat.shiftLeft_zero]
 generalize Toward.even.cut false (m*2^k) (m.log2-52+k)=kept at*
 rw[infRung_eq,binade_eq]
 have k1:4503599627370496≤kept:=Nat.le_trans d1 c2
 have k2:kept≤9007199254740992:=Nat.le_trans c1 (Nat.succ_le_of_lt d2)
 rw[min_rung _ _ hL2 k2]
 exact read_kept _ _ hL hL2 k1 k2
theorem read_int_pos(n:Nat)(h0:n≠0)(h:n<2^53):∃k:Nat,k≤52∧D.read (fI n)=.number false (n*2^k) (-(k:Int)):=by
 have hL:n.log2<53:=(Nat.log2_lt h0).2 h
 refine⟨52-n.log2,by omega,?_⟩
 have:=read_fI n (by omega) (by simpa using h)
 rw[this]
 have e:(-((52-n.log2:Nat):Int))=(n.log2:Int)-52:=by omega
 rw[Int.natAbs_natCast,e]
 have:decide ((n:Int)<0)=false:=by simp
 rw[this]
theorem mul_val(a b:Nat)(a0:a≠0)(b0:b≠0)(ha:a<2^53)(hb:b<2^53):∃k:Nat,k≤104∧
  D.mul (fI a) (fI b)=some (D.nearest false (a*b*2^k) (-(k:Int))):=by
 obtain⟨k,hk1,hk⟩:=read_int_pos a a0 ha
 obtain⟨j,hj1,hj⟩:=read_int_pos b b0 hb
 refine⟨k+j,by omega,?_⟩
 unfold Format.mul
 rw[hk,hj]
 simp only[Datum.product,Option.map_some]
 have e:a*2^k*(b*2^j)=a*b*2^(k+j):=by
  rw[Nat.pow_add,Nat.mul_assoc,Nat.mul_assoc,Nat.mul_left_comm (2^k)]
 have e':(-(k:Int)+-(j:Int))=-((k+j:Nat):Int):=by omega
 rw[e,e']
 rfl
theorem mul_big(a b:Nat)(ha:a<2^53)(hb:b<2^53)(hab:2^53≤a*b):∃r,D.mul (fI a) (fI b)=some r∧∀c:Nat,c<2^53→D.order r (fI c)=some .gt:=by
 have a0:a≠0:=by rintro rfl;have:=Nat.two_pow_pos 53;omega
 have b0:b≠0:=by rintro rfl;have:=Nat.two_pow_pos 53;omega
 obtain⟨k,hk,h⟩:=mul_val a b a0 b0 ha hb
 refine⟨_,h,fun c hc=> ?_⟩
 have hlt:(a*b).log2<107:=by
  have h1:a*b<2^53*2^53:=Nat.mul_lt_mul'' ha hb
  rw[←Nat.pow_add] at h1
  have h2:a*b≠0:=Nat.mul_ne_zero a0 b0
  have:=(Nat.log2_lt h2).2 h1
  omega
 obtain⟨j,r,hr,hj,hread⟩:=nearest_big (a*b) k hab hlt
 obtain⟨i,hi1,hi⟩:=read_int c (by simpa using hc)
 unfold Format.order
 rw[hread,hi]
 simp only[Datum.order]
 rw[signed_int]
 have e1:min (j:Int) (-(i:Int))=-(i:Int):=by omega
 have e2:((j:Int) - -(i:Int)).toNat=j+i:=by omega
 have e3:(-(i:Int) - -(i:Int)).toNat=0:=by omega
 rw[e1,e2,e3]
 unfold signed
 rw[Nat.shiftLeft_eq,Nat.add_zero,Nat.pow_add]
 have h53:(2:Nat)^53=9007199254740992:=by decide
 have hp:=Nat.two_pow_pos i
 have hj2:2≤2^j:=by
  have:2^1≤2^j:=Nat.pow_le_pow_right (by omega) hj
  simpa using this
 have hlt2:c*2^i<r*(2^j*2^i):=by
  rw[←Nat.mul_assoc]
  refine Nat.mul_lt_mul_of_pos_right ?_ hp
  have:r*2≤r*2^j:=Nat.mul_le_mul_left _ hj2
  omega
 have hlt3:((c:Nat):Int)*((2^i:Nat):Int)<((r*(2^j*2^i):Nat):Int):=by
  rw[←Int.natCast_mul];omega
 simp only[Bool.false_eq_true,if_false]
 generalize ((r*(2^j*2^i):Nat):Int)=X at*
 generalize ((c:Nat):Int)*((2^i:Nat):Int)=Y at*
 congr 1
 simp only[compare,compareOfLessAndEq]
 rw[if_neg (by omega),if_neg (by omega)]
#print axioms mul_big
#print axioms toIntVal_fI
end Fl
namespace Go.Proofs.YtmioakocnebceaaGreat
open Go.RowKit Fl Go.Bs
theorem unary_neg_float(k:FloatKind)(b:Nat):Op.unary .neg (.float k b)=pure (.float k (Op.negFloat k b)):=rfl
theorem floatOfInt_fI(n:Int):floatOfInt .f64 n=fI n:=rfl
attribute [local go_sem] unary_neg_float floatOfInt_fI
theorem findB_none_of{b:Batch}{pos:Int}(h:∀j:Nat,j<b.entries.length→¬b.base+j=pos):findB b pos=none:=by
 unfold findB
 split
 ·rename_i hle
  refine List.getElem?_eq_none ?_
  rcases Nat.lt_or_ge (pos-b.base).toNat b.entries.length with h1 | h1
  ·exact absurd (by omega) (h _ h1)
  ·exact h1
 ·rfl
theorem findB_some_of{b:Batch}{pos:Int}{j:Nat}(h:j<b.entries.length)(hp:b.base+j=pos):findB b pos=some b.entries[j]:=by
 unfold findB
 rw[if_pos (by omega),show (pos-b.base).toNat=j by omega]
 exact List.getElem?_eq_getElem h
def EntAt(l:List Batch)(pos:Int)(r:Ending):Prop:=
 match findS l pos with
 | none=>r=.returned (.tuple #[.int .i64 (-1),.int .i64 (-1)])
 | some e=>∃(i k:Nat) (hi:i<l.length) (hk:k<(l[i]'hi).entries.length),(l[i]'hi).entries[k]'hk=e∧r=.returned (.tuple #[.int .i64 i,.int .i64 k])
theorem ref34_entry(e:Int)(l:List Batch)(pos:Int)(a:Option Addr)(n c:Nat)(w:World)(hl:rBatches.r (·<w.heap.size) w [.slice a n c] l)(hp:0≤pos∧pos≤18446744073709551615)(hb0:∀b∈l,b.base+b.entries.length≤4611686018427387904):
  Calls Tryz.prog 53 #[.agg #[.int .u64 e,.slice a n c],.int .u64 pos] w fun r w'=>EntAt l pos r∧Below w.heap.size w w':=by
 obtain⟨rfl,hm,_,_⟩:=sl_len hl
 have HL:=hid hl
 have HB0:=hid hb0
 clear hl hb0
 go_enter Tryz.func53,Tryz.ntmps53
 go_wp2_with fail
 refine wp_world (fun W=>Below w.heap.size w W∧w.heap.size<W.heap.size∧W.cell? ⟨w.heap.size,1,none⟩=some (.slice a l.length c)) ⟨by (repeat (first | exact Below.refl _ _ | assumption | (refine below_alloc ?_ _) | (refine Below.setCell ?_ (by first | omega | (simp;done) | (simp;omega)) _) | (refine Below.drew ?_) | (refine below_drewN ?_ _) | (refine below_then (by assumption) ?_))),by simp,by go_simp⟩ ?_
 intro W ⟨hbW,hzW,q1⟩
 go_loopw [6] (fun i wr=>∃k:Nat,k≤l.length∧i=.int .i64 k∧Hid (findS l pos=findS (l.drop k) pos)∧Below W.heap.size W wr) (fun i _=>l.length-(intOf i).toNat)
 case atStart=>exact ⟨0,Nat.zero_le _,rfl,hid rfl,Below.refl _ _⟩
 case round=>
  obtain⟨k,hk,rfl,hf,hb⟩:=hrel
  have hb3:=below_then hb hbW
  have t1:wr.cell? ⟨w.heap.size,1,none⟩=some (.slice a l.length c):=(Later.mk wr hb).cell q1
  have hz3:w.heap.size<wr.heap.size:=by have:=hb.size;omega
  by_cases hlt:k<l.length
  ·obtain⟨b,o,hA,hbb,a1,c1,X0,X1,X2,_,b1,hd⟩:=batch_at (lift HL.out hb3) hlt
   subst hA
   have hst:=hid (findS_step l pos k hlt)
   have hb5:=HB0.out _ (List.getElem_mem hlt)
   have HKK:Hid (∀j:Nat,∀hj:j<(l[k]'hlt).entries.length,(l[k]'hlt).base+j=pos→EntAt l pos (.returned (.tuple #[.int .i64 k,.int .i64 j]))):=hid (by
    intro j hj hp
    unfold EntAt
    rw[hf.out,hst.out,findB_some_of hj hp]
    exact⟨k,j,hlt,hj,rfl,rfl⟩)
   clear hd
   generalize l[k]=z at*
   obtain⟨wo,hwo⟩:∃wo:World,wo=wr:=⟨_,rfl⟩
   subst hwo
   have i1:(k:Int)<(l.length:Int):=by omega
   obtain⟨hm1,_⟩:z.entries.length≤4611686018427387904∧True:=⟨by omega,trivial⟩
   go_wp2_with fail
   go_loopw [7] (fun i wq=>∃j:Nat,j≤z.entries.length∧i=.int .i64 j∧Hid (∀t:Nat,t<j→¬z.base+t=pos)∧Below wo.heap.size wo wq) (fun i _=>z.entries.length-(intOf i).toNat)
   case atStart=>exact ⟨0,Nat.zero_le _,rfl,hid (fun t ht=>absurd ht (Nat.not_lt_zero _)),Below.refl _ _⟩
   case round=>
    obtain⟨j,hj,rfl,hno,hq⟩:=hrel
    have hq3:=below_then hq hb3
    have t2:wr.cell? ⟨w.heap.size,1,none⟩=some (.slice (some ⟨b,o,none⟩) l.length c):=(Later.mk wr hq).cell t1
    have hbo:b<wo.heap.size:=hbb
    have Y1:wr.cell? ⟨b,o+k*3+1,none⟩=some (.int .u64 z.base):=(Later.mk wr hq).cell X1
    have Y2:wr.cell? ⟨b,o+k*3+2,none⟩=some (.slice a1 z.entries.length c1):=(Later.mk wr hq).cell X2
    by_cases hjl:j<z.entries.length
    ·have j1:(j:Int)<(z.entries.length:Int):=by omega
     have hr:0≤z.base+(j:Int)∧z.base+(j:Int)≤18446744073709551615:=by omega
     by_cases hpe:z.base+(j:Int)=pos
     ·have hd:(z.base+(j:Int)==pos)=true:=by simp[hpe]
      have HE:=hid (HKK.out j hjl hpe)
      clear hpe
      go_wp2
      go_ret2
      exact⟨HE.out,by (repeat (first | exact Below.refl _ _ | assumption | (refine below_alloc ?_ _) | (refine Below.setCell ?_ (by first | omega | (simp;done) | (simp;omega)) _) | (refine Below.drew ?_) | (refine below_drewN ?_ _) | (refine below_then (by assumption) ?_)))⟩
     ·have hd:(z.base+(j:Int)==pos)=false:=by simp[hpe]
      have HN:Hid (∀t:Nat,t<j+1→¬z.base+t=pos):=hid (fun t ht=>by
       rcases Nat.lt_succ_iff_lt_or_eq.1 ht with h | rfl
       ·exact hno.out t h
       ·exact hpe)
      clear hpe
      go_wp2
      go_roundw
      case rel=>exact ⟨j+1,by omega,by go_num,HN,by (repeat (first | exact Below.refl _ _ | assumption | (refine below_alloc ?_ _) | (refine Below.setCell ?_ (by first | omega | (simp;done) | (simp;omega)) _) | (refine Below.drew ?_) | (refine below_drewN ?_ _) | (refine below_then (by assumption) ?_)))⟩
      case measure=>simp [intOf];omega
    ·obtain rfl:j=z.entries.length:=by omega
     have hff:Hid (findS l pos=findS (l.drop (k+1)) pos):=hid (by rw[hf.out,hst.out,findB_none_of hno.out];rfl)
     go_wp2
     go_roundw
     case rel=>exact ⟨k+1,by omega,by go_num,hff,below_then hq hb⟩
     case measure=>simp [intOf];omega
  ·obtain rfl:k=l.length:=by omega
   have hff:Hid (findS l pos=none):=hid (by rw[hf.out,List.drop_length];rfl)
   go_wp2
   go_ret2
   exact⟨by unfold EntAt;rw[hff.out];rfl,by (repeat (first | exact Below.refl _ _ | assumption | (refine below_alloc ?_ _) | (refine Below.setCell ?_ (by first | omega | (simp;done) | (simp;omega)) _) | (refine Below.drew ?_) | (refine below_drewN ?_ _) | (refine below_then (by assumption) ?_)))⟩
open Go.RowKit Go.Bs
theorem OwnEls.low{w:World}{α:Type}{lo lo' base base':Nat}{A:Rp α}{e:TypeId}{sz:Nat}{v:Value}{xs:List α}(h:OwnEls lo A base e sz w v xs)(hl:lo'≤lo)(hb:base'≤base):OwnEls lo' A base' e sz w v xs:=by
 obtain⟨cells,ho,hlen,hsz,hA⟩:=h
 refine⟨cells,⟨ho.1,?_⟩,hlen,hsz,fun i cs x hi hx=>A.mono (hA i cs x hi hx) fun b h=>⟨by have:=h.1;omega,h.2⟩⟩
 rcases ho.2 with h0 | ⟨g',cap,cur,h1,h2,h3⟩
 ·exact .inl h0
 ·exact .inr ⟨g',cap,cur,h1,by omega,h3⟩
structure AppI(w W:World)(ep:Int)(a:Option Addr)(n c:Nat)(b:Batch)(ab:Option Addr)(nb cb:Nat):Prop where
 below:Below w.heap.size w W
 g:Blk W w.heap.size 28 #[.int .u64 ep,.slice a n c]
 x:Blk W (w.heap.size+1) 60 #[.int .u64 b.epoch,.int .u64 b.base,.slice ab nb cb]
 r:Blk W (w.heap.size+1+1) 28 #[.int .u64 0,.slice none 0 0]
theorem AppI.later{w W W':World}{ep:Int}{a:Option Addr}{n c:Nat}{b:Batch}{ab:Option Addr}{nb cb:Nat}(h:AppI w W ep a n c b ab nb cb)(hb:Below W.heap.size W W'):AppI w W' ep a n c b ab nb cb:=
 ⟨below_then hb h.below,h.g.later hb,h.x.later hb,h.r.later hb⟩
theorem AppI.grown{w W W':World}{ep:Int}{a:Option Addr}{n c:Nat}{b:Batch}{ab:Option Addr}{nb cb:Nat}{v:Value}(h:AppI w W ep a n c b ab nb cb)(hg:W.grownBy W' v.ownBlock)(hv:∀g,v.ownBlock=some g→w.heap.size+3≤g):AppI w W' ep a n c b ab nb cb:=
 ⟨h.below.grown hg h.below.size (fun g e=>by have:=hv g e;omega),h.g.grown hg (fun e=>by have:=hv _ e.symm;omega),h.x.grown hg (fun e=>by have:=hv _ e.symm;omega),h.r.grown hg (fun e=>by have:=hv _ e.symm;omega)⟩
theorem chainR_snoc(e:Int)(b:Batch):∀(l:List Batch) (p:Option Batch),chainR e p (l++[b])=(chainR e p l&&(batchR b&&mayR e (l.getLast?.or p) b))
 | [],p=>by simp[chainR]
 | x::l,p=>by
  simp only[List.cons_append,chainR]
  rw[chainR_snoc e b l (some x)]
  have:(x::l).getLast?.or p=l.getLast?.or (some x):=by
   rw[List.getLast?_cons]
   cases l.getLast? <;>rfl
  rw[this]
  cases batchR x<;>cases mayR e p x<;>simp
structure LawI(w W:World)(ep:Int)(a:Option Addr)(n c:Nat)(b:Batch)(ab:Option Addr)(nb cb:Nat):Prop where
 below:Below w.heap.size w W
 g:Blk W w.heap.size 28 #[.int .u64 ep,.slice a n c]
 x:Blk W (w.heap.size+1) 60 #[.int .u64 b.epoch,.int .u64 b.base,.slice ab nb cb]
theorem LawI.later{w W W':World}{ep:Int}{a:Option Addr}{n c:Nat}{b:Batch}{ab:Option Addr}{nb cb:Nat}(h:LawI w W ep a n c b ab nb cb)(hb:Below W.heap.size W W'):LawI w W' ep a n c b ab nb cb:=
 ⟨below_then hb h.below,h.g.later hb,h.x.later hb⟩
structure LawH(w w4 W:World)(ep:Int)(a:Option Addr)(n c:Nat)(b:Batch)(ab:Option Addr)(nb cb:Nat)(gh:Nat)(e3:Int)(a3:Option Addr)(n3 c3:Nat):Prop extends LawI w W ep a n c b ab nb cb where
 later4:Below w4.heap.size w4 W
 h:Blk W gh 28 #[.int .u64 e3,.slice a3 n3 c3]
theorem LawH.later{w w4 W W':World}{ep:Int}{a:Option Addr}{n c:Nat}{b:Batch}{ab:Option Addr}{nb cb:Nat}{gh:Nat}{e3:Int}{a3:Option Addr}{n3 c3:Nat}(h:LawH w w4 W ep a n c b ab nb cb gh e3 a3 n3 c3)(hb:Below W.heap.size W W'):LawH w w4 W' ep a n c b ab nb cb gh e3 a3 n3 c3:=
 ⟨h.toLawI.later hb,below_then hb h.later4,h.h.later hb⟩
theorem seg_arg{H:Type}(enc:TypeId × Value→H)(W:World)(base:Nat)(v0:Value)(d0:DataW H)(p0:List MemPlace)
  (k0:DataW.Trod enc Tryz.prog W 0 (fun _=>true) true 28 v0 d0 p0) (o0:Value.okWide Tryz.prog W .any base 28 v0):
  ∃(ep:Int) (l:List Batch) (a:Option Addr) (n c:Nat),v0=.agg #[.int .u64 ep,.slice a n c]∧(0≤ep∧ep≤18446744073709551615)∧rBatches.r (·<W.heap.size) W [.slice a n c] l:=by
 obtain⟨fuel,hf⟩:=k0
 obtain⟨cs,rfl,hsz⟩:=Go.WideShapes.okWide_struct Tryz.underlying28 o0
 obtain⟨u,hu⟩:=o_seg enc W fuel _ _ hf
 obtain⟨a,c,hcs,h0,hl⟩:=seg_cells hu
 have e:cs=#[.int .u64 u.epoch,.slice a u.batches.length c]:=by
  have:=hcs
  simp only[Value.cells] at this
  exact Array.ext' this
 exact⟨u.epoch,u.batches,a,_,c,by rw[e],h0,hl⟩
theorem EntRet.one{X:Option Entry}{w w':World}{r:Ending}(h:EntRet X w r w'):∃v1 v2,r=.returned (.tuple #[.agg #[v1,v2],.bool X.isSome])∧rLinks.r (Fresh w w') w' [v1] (X.getD ⟨[],[]⟩).links∧rBytes.r (Fresh w w') w' [v2] (X.getD ⟨[],[]⟩).data∧Below w.heap.size w w':=by
 cases X with
 | none=>exact ⟨_,_,h.1,rSl_mk (xs:=[]) rfl (Nat.le_refl _) (Nat.zero_le _) (.inl rfl),rSl_mk (xs:=[]) rfl (Nat.le_refl _) (Nat.zero_le _) (.inl rfl),h.2⟩
 | some e=>exact h
structure LawF(w W:World)(ep:Int)(a:Option Addr)(n c:Nat):Prop where
 below:Below w.heap.size w W
 g:Blk W w.heap.size 28 #[.int .u64 ep,.slice a n c]
theorem LawF.later{w W W':World}{ep:Int}{a:Option Addr}{n c:Nat}(h:LawF w W ep a n c)(hb:Below W.heap.size W W'):LawF w W' ep a n c:=⟨below_then hb h.below,h.g.later hb⟩
def joinB(x b:Batch):Batch:=⟨x.epoch,x.base,x.entries++b.entries⟩
def jn(x b:Batch):Bool:=decide (x.epoch=b.epoch∧x.base+x.entries.length=b.base∧x.entries.length+b.entries.length≤16∧total x.entries+total b.entries≤1048576)
def joinC2(x b:Batch):Int:=if batchR x=false∨batchR b=false then 3 else if ¬x.base+x.entries.length=b.base∨¬x.epoch=b.epoch then 13 else if batchR (joinB x b)=true then 0 else 2
theorem total_app(xs ys:List Entry):total (xs++ys)=total xs+total ys:=by unfold total;rw[List.map_append,List.sum_append]
theorem entriesR_app:∀(xs ys:List Entry) (p:Int),entriesR p (xs++ys)=(entriesR p xs&&entriesR (p+xs.length) ys)
 | [],ys,p=>by simp[entriesR]
 | x::xs,ys,p=>by
  simp only[List.cons_append,entriesR,List.length_cons]
  rw[entriesR_app xs ys (p+1),Bool.and_assoc,show p+1+(xs.length:Int)=p+((xs.length+1:Nat):Int) by omega]
theorem join_right{x b:Batch}(hx:batchR x=true)(hb:batchR b=true)(h1:x.base+x.entries.length=b.base):batchR (joinB x b)=decide (x.entries.length+b.entries.length≤16∧total x.entries+total b.entries≤1048576):=by
 have hx':=batchR_facts hx
 have hb':=batchR_facts hb
 have ex:entriesR x.base x.entries=true:=by simp only[batchR,Bool.and_eq_true] at hx;exact hx.2.2.2
 have eb:entriesR b.base b.entries=true:=by simp only[batchR,Bool.and_eq_true] at hb;exact hb.2.2.2
 have hxb:x.base<4611686018427387904:=by omega
 have e1:epR x.epoch=true:=by simp only[epR,decide_eq_true_eq];omega
 simp only[batchR,joinB,e1,Bool.true_and,fitsR,total_app,entriesR_app,ex,h1,eb,Bool.and_true,List.length_append]
 rw[Bool.eq_iff_iff]
 simp only[Bool.and_eq_true,decide_eq_true_eq]
 constructor
 ·rintro⟨h,h2⟩;omega
 ·rintro⟨h,h2⟩
  omega
theorem joinC2_zero{x b:Batch}(hx:batchR x=true)(hb:batchR b=true):(joinC2 x b=0)↔jn x b=true:=by
 unfold joinC2
 rw[if_neg (by simp[hx,hb])]
 simp only[jn,decide_eq_true_eq]
 by_cases h1:x.base+x.entries.length=b.base
 ·by_cases h2:x.epoch=b.epoch
  ·rw[if_neg (by simp[h1,h2]),join_right hx hb h1]
   by_cases h3:x.entries.length+b.entries.length≤16∧total x.entries+total b.entries≤1048576
   ·simp[h1,h2,h3]
   ·rw[if_neg (by simpa using h3)]
    simp only[h1,h2,true_and]
    exact⟨fun h=>by simp at h,fun h=>absurd h h3⟩
  ·rw[if_pos (.inr h2)]
   simp[h2]
 ·rw[if_pos (.inl h1)]
  simp[h1]
theorem joinC2_right{x b:Batch}(h:joinC2 x b=0):batchR (joinB x b)=true:=by
 unfold joinC2 at h
 split at h
 ·cases h
 ·split at h
  ·cases h
  ·split at h
   ·assumption
   ·cases h
def compS(M:List Batch)(b:Batch):List Batch:=match M.getLast? with
 | none=>M++[b]
 | some x=>if joinC2 x b=0 then M.dropLast++[joinB x b] else M++[b]
theorem compS_nil(b:Batch):compS [] b=[b]:=rfl
theorem compS_snoc(M:List Batch)(x b:Batch):compS (M++[x]) b=if joinC2 x b=0 then M++[joinB x b] else M++[x]++[b]:=by
 simp only[compS,List.getLast?_concat,List.dropLast_concat]
theorem snoc_cases(M:List Batch):M=[]∨∃L x,M=L++[x]:=by
 rcases List.eq_nil_or_concat M with h | ⟨L,x,h⟩
 ·exact .inl h
 ·exact .inr ⟨L,x,by simpa using h⟩
theorem joinC2_parts{x b:Batch}(h:joinC2 x b=0):x.base+x.entries.length=b.base∧x.epoch=b.epoch:=by
 unfold joinC2 at h
 split at h
 ·cases h
 ·split at h
  ·cases h
  ·rename_i h1;exact⟨Classical.not_not.1 fun h2=>h1 (.inl h2),Classical.not_not.1 fun h2=>h1 (.inr h2)⟩
def noJ(M:List Batch):Prop:=∀i,(h:i+1<M.length)→jn (M[i]'(by omega)) (M[i+1]'h)=false
theorem noJ_snoc{M:List Batch}{b:Batch}(h:noJ M)(h2:∀x,M.getLast? =some x→jn x b=false):noJ (M++[b]):=by
 intro i hi
 simp only[List.length_append,List.length_cons,List.length_nil] at hi
 by_cases h3:i+1<M.length
 ·rw[List.getElem_append_left (by omega),List.getElem_append_left h3]
  exact h i h3
 ·have h4:i+1=M.length:=by omega
  rw[List.getElem_append_left (by omega),List.getElem_append_right (by omega)]
  simp only[h4,Nat.sub_self,List.getElem_cons_zero]
  refine h2 _ ?_
  rw[List.getLast?_eq_getElem?,List.getElem?_eq_getElem (by omega)]
  congr 2
  omega
theorem noJ_init{M:List Batch}{b:Batch}(h:noJ (M++[b])):noJ M∧∀x,M.getLast? =some x→jn x b=false:=by
 refine⟨fun i hi=> ?_,fun x hx=> ?_⟩
 ·have:=h i (by simp;omega)
  rwa [List.getElem_append_left (by omega),List.getElem_append_left hi] at this
 ·rw[List.getLast?_eq_getElem?] at hx
  obtain⟨hl,hx⟩:=List.getElem?_eq_some_iff.1 hx
  have:=h (M.length-1) (by simp;omega)
  rw[List.getElem_append_left (by omega),List.getElem_append_right (by omega)] at this
  have e:M.length-1+1-M.length=0:=by omega
  simp only[e,List.getElem_cons_zero,hx] at this
  exact this
theorem jn_mono{p x b:Batch}(h:jn p x=false):jn p (joinB x b)=false:=by
 simp only[jn,decide_eq_false_iff_not,joinB,List.length_append,total_app] at*
 intro h2
 exact h ⟨h2.1,h2.2.1,by omega,by omega⟩
def relL:Option Batch→Option Batch→Prop
 | none,none=>True
 | some x,some y=>x.epoch=y.epoch∧x.base+x.entries.length=y.base+y.entries.length
 | _,_=>False
structure CInv(ep:Int)(p:Option Batch)(M:List Batch):Prop where
 chain:chainR ep none M=true
 last:relL M.getLast? p
 no:noJ M
theorem CInv.step{ep:Int}{p:Option Batch}{M:List Batch}{b:Batch}(h:CInv ep p M)(hb:batchR b=true)(hm:mayR ep p b=true):CInv ep (some b) (compS M b):=by
 have hm':=hm
 simp only[mayR,Bool.and_eq_true,decide_eq_true_eq] at hm
 rcases snoc_cases M with rfl | ⟨L,x,rfl⟩
 ·rw[compS_nil]
  refine⟨?_,⟨rfl,rfl⟩,fun i hi=>by simp at hi⟩
  simp only[chainR,hb,mayR,hm.1,Bool.true_and,decide_true]
 ·have hl:=h.last
  rw[List.getLast?_concat] at hl
  cases p with
  | none=>exact hl.elim
  | some y=>
   obtain⟨l1,l2⟩:=hl
   have hc:=h.chain
   rw[chainR_snoc] at hc
   simp only[Bool.and_eq_true] at hc
   obtain⟨hc1,hxR,hxm⟩:=hc
   obtain⟨n1,n2⟩:=noJ_init h.no
   rw[compS_snoc]
   split
   ·rename_i h0
    obtain⟨q1,q2⟩:=joinC2_parts h0
    refine⟨?_,?_,noJ_snoc n1 fun z hz=>jn_mono (n2 z hz)⟩
    ·rw[chainR_snoc,hc1,joinC2_right h0]
     exact hxm
    ·rw[List.getLast?_concat]
     refine⟨q2,?_⟩
     show x.base+((x.entries++b.entries).length:Int)=_
     rw[List.length_append]
     omega
   ·rename_i h0
    refine⟨?_,?_,noJ_snoc h.no fun z hz=> ?_⟩
    ·rw[chainR_snoc,h.chain,hb,List.getLast?_concat]
     simp only[Option.some_or,mayR,Bool.true_and,Bool.and_eq_true,decide_eq_true_eq]
     simp only[Bool.and_eq_true,decide_eq_true_eq] at hm
     exact⟨hm.1,by omega,by omega⟩
    ·rw[List.getLast?_concat];exact⟨rfl,rfl⟩
    ·rw[List.getLast?_concat,Option.some.injEq] at hz
     subst hz
     rw[←Bool.not_eq_true]
     exact fun h1=>h0 ((joinC2_zero hxR hb).2 h1)
theorem le_sum_of'{l:List Nat}{n:Nat}(h:n∈l):n≤l.sum:=by
 induction l with
 | nil=>cases h
 | cons a l ih=>
  rw[List.sum_cons]
  rcases List.mem_cons.1 h with rfl | h
  ·omega
  ·have:=ih h;omega
theorem fair_of{b:Batch}(h:batchR b=true):Fair b.entries∧MildB b:=by
 simp only[batchR,Bool.and_eq_true,decide_eq_true_eq] at h
 obtain⟨_,hf,ht,he⟩:=h
 simp only[fitsR,decide_eq_true_eq] at hf
 have key:∀(l:List Entry) (p:Int),entriesR p l=true→∀e∈l,e.links.length≤1000000∧∀x∈e.links,x.backs.length≤1000000:=by
  intro l
  induction l with
  | nil=>intro p _ e he;simp at he
  | cons a l ih=>
   intro p h e he
   simp only[entriesR,Bool.and_eq_true] at h
   rcases List.mem_cons.1 he with rfl | he
   ·have h1:=h.1
    simp only[entryR,linksR,Bool.and_eq_true,decide_eq_true_eq,List.all_eq_true] at h1
    refine⟨by have:=h1.1;omega,fun x hx=> ?_⟩
    have:=h1.1.2.2 x hx
    simp only[linkR,Bool.and_eq_true,decide_eq_true_eq] at this
    omega
   ·exact ih _ h.2 e he
 have hd:∀e∈b.entries,e.data.length≤total b.entries:=fun e he=>by
  unfold total
  exact le_sum_of' (List.mem_map.2 ⟨e,he,rfl⟩)
 refine⟨⟨by omega,by omega,fun e h x hx=>by have:=(key _ _ he e h).2 x hx;omega⟩,by omega,fun e h=>⟨by have:=(key _ _ he e h).1;omega,by have:=hd e h;omega,fun x hx=>by have:=(key _ _ he e h).2 x hx;omega⟩⟩
structure PkI(w W:World)(x:Batch)(ax:Option Addr)(cx:Nat)(b:Batch)(ab:Option Addr)(cb:Nat):Prop where
 below:Below w.heap.size w W
 g:Blk W w.heap.size 60 #[.int .u64 x.epoch,.int .u64 x.base,.slice ax x.entries.length cx]
 x:Blk W (w.heap.size+1) 60 #[.int .u64 b.epoch,.int .u64 b.base,.slice ab b.entries.length cb]
 r:Blk W (w.heap.size+1+1) 60 #[.int .u64 0,.int .u64 0,.slice none 0 0]
theorem PkI.later{w W W':World}{x:Batch}{ax:Option Addr}{cx:Nat}{b:Batch}{ab:Option Addr}{cb:Nat}(h:PkI w W x ax cx b ab cb)(hb:Below W.heap.size W W'):PkI w W' x ax cx b ab cb:=
 ⟨below_then hb h.below,h.g.later hb,h.x.later hb,h.r.later hb⟩
theorem PkI.grown{w W W':World}{x:Batch}{ax:Option Addr}{cx:Nat}{b:Batch}{ab:Option Addr}{cb:Nat}{v:Value}(h:PkI w W x ax cx b ab cb)(hg:W.grownBy W' v.ownBlock)(hv:∀g,v.ownBlock=some g→w.heap.size+3≤g):PkI w W' x ax cx b ab cb:=
 ⟨h.below.grown hg h.below.size (fun g e=>by have:=hv g e;omega),h.g.grown hg (fun e=>by have:=hv _ e.symm;omega),h.x.grown hg (fun e=>by have:=hv _ e.symm;omega),h.r.grown hg (fun e=>by have:=hv _ e.symm;omega)⟩
open Go.RowKit Go.Bs Go.Maps
theorem fnd_ok{B:List UInt8}(h:(fnd B).2.1=0):FootR (fnd B).1.foot∧(fnd B).1.foot.at_+(fnd B).1.foot.size≤((fnd B).1.at_:Int)∧(fnd B).1.at_+12≤B.length∧(fnd B).2.2=0:=by
 unfold fnd at h ⊢
 dsimp only at h ⊢
 by_cases h1:(footF B).2.2.1=0
 ·rw[if_pos h1] at h ⊢
  obtain⟨f1,f2,f3⟩:=footF_ok h1
  by_cases h2:((footF B).2.1:Int)<(footF B).1.at_+(footF B).1.size
  ·rw[if_pos h2] at h
   exact absurd (show (3:Int)=0 from h) (by decide)
  ·rw[if_neg h2] at h ⊢
   rw[fndC_eq] at h ⊢
   split at h
   ·rename_i h3
    rw[if_pos h3]
    exact⟨f1,by dsimp only;omega,f2,rfl⟩
   ·rename_i h3
    exact absurd h h3
 ·rw[if_neg h1] at h
  exact absurd h h1
theorem riseM_at:∀(l:List MarkD) (p a:Int),riseM p a l=true→∀m∈l,a<m.at_∧m.at_≤1099511627775
 | [],_,_,_,m,hm=>by cases hm
 | x::l,p,a,h,m,hm=>by
  simp only[riseM,Bool.and_eq_true] at h
  obtain⟨f1,f2,f3,f4,f5,f6,f7⟩:=fitsM_facts h.1
  rcases List.mem_cons.1 hm with rfl | hm
  ·exact⟨f6,f7⟩
  ·have:=riseM_at l _ _ h.2 m hm
   omega
theorem fndM_in{l:List MarkD}{pos:Int}{m:MarkD}(hR:marksR l=true)(h:fndM l pos=some m):0<m.at_∧m.at_≤1099511627775:=by
 unfold marksR at hR
 simp only[Bool.and_eq_true] at hR
 exact riseM_at l 0 0 hR.1 m (List.mem_of_find?_eq_some h)
theorem batC_right{D:List UInt8}(h:(batC D).2.2.1=0):batchR (batC D).1=true∧batchN (batC D).1:=by
 obtain⟨P,s,h1,h2,h3,_⟩:=cont_ok h
 have hf:=Rs.batch_fit (blk:=blkS P) (fun t ht=>blkS_fit ht) h1
 have hz:=Rs.fin_zero hf.ok h2
 obtain⟨g1,g2,_⟩:=Rs.batch_canon h1.ok hz.1 (fun t=>blkS_k t) (fun t=>blkS_len t)
 unfold batC
 rw[h3]
 exact⟨g1,g2⟩
theorem batAt_right{B:List UInt8}{m:MarkD}{e:Int}(h:(batAt B m e).2.1=0):batchR (batAt B m e).1=true∧batchN (batAt B m e).1∧(batAt B m e).2.2=0:=by
 unfold batAt at h ⊢
 split at h
 ·exact absurd (show (3:Int)=0 from h) (by decide)
 ·rename_i h1
  rw[if_neg h1]
  dsimp only at h ⊢
  split at h
  ·rename_i h2
   rw[if_pos h2]
   split at h
   ·rename_i h3
    rw[if_pos h3]
    exact⟨(batC_right h2).1,(batC_right h2).2,rfl⟩
   ·exact absurd (show (12:Int)=0 from h) (by decide)
  ·rename_i h2
   exact absurd h h2
def LkpRet(x:Option Entry × Int × Int)(w:World)(r:Ending)(w':World):Prop:=
 match x.1 with
 | none=>r=.returned (.tuple #[.agg #[.slice none 0 0,.slice none 0 0],.agg #[.int .i64 x.2.1,.int .i64 x.2.2]])∧Below w.heap.size w w'
 | some e=>∃v1 v2,r=.returned (.tuple #[.agg #[v1,v2],.agg #[.int .i64 x.2.1,.int .i64 x.2.2]])∧rLinks.r (Fresh w w') w' [v1] e.links∧rBytes.r (Fresh w w') w' [v2] e.data∧Below w.heap.size w w'
structure LuI(w W:World):Prop where
 rb:Blk W w.heap.size 84 #[.slice none 0 0,.slice none 0 0]
 fb:Blk W (w.heap.size+1) 31 #[.int .i64 0,.int .i64 0]
 bl:Below w.heap.size w W
theorem LuI.later{w W W':World}(h:LuI w W)(hb:Below W.heap.size W W'):LuI w W':=⟨h.rb.later hb,h.fb.later hb,below_then hb h.bl⟩
theorem LuI.lo{w W W':World}{lo:Nat}(h:LuI w W)(hb:Below lo W W')(hl:w.heap.size+2≤lo):LuI w W':=⟨h.rb.below hb (by omega),h.fb.below hb (by omega),h.bl.trans (hb.mono (by omega))⟩
theorem e2_blk{W:World}{g:Nat}{t:TypeId}{v0 v1:Value}(h:Blk W g t #[v0,v1]):W.cell? ⟨g,0,none⟩=some v0∧W.cell? ⟨g,1,none⟩=some v1∧W.frozen? ⟨g,0,none⟩=false∧W.frozen? ⟨g,1,none⟩=false∧g<W.heap.size:=
 ⟨h.cell 0,h.cell 1,h.free 0,h.free 1,h.lt⟩
theorem lookup_lookup(w:World)(B:List UInt8)(a:Option Addr)(n c:Nat)(hl:rBytes.r (·<w.heap.size) w [.slice a n c] B)(hB:B.length≤1000000000)(pos:Int)(hp:0≤pos∧pos≤18446744073709551615):
  Calls Tryz.prog 48 #[.slice a n c,.int .u64 pos] w (LkpRet (lkp B pos) w):=by
 obtain⟨rfl,hmx,hcc,hcm⟩:=sl_len hl
 have HFN:=hid (fun (W:World) (hW:Below w.heap.size w W)=>lookup_find W B a _ c (lift hl hW) hB)
 have hmr:=fnd_right (B:=B)
 have hok:=fnd_ok (B:=B)
 obtain⟨RES,hRES⟩:∃RES,RES=lkp B pos:=⟨_,rfl⟩
 rw[←hRES]
 unfold lkp at hRES
 dsimp only at hRES
 have HBA:=hid (fun (W:World) (hW:Below w.heap.size w W) (m:MarkD) (e:Int) (hm:0≤m.at_∧m.at_≤1099511627775) (he:e≤B.length)=>lookup_batchat W B a _ c (lift hl hW) hB m e hm he)
 generalize fnd B=q at*
 obtain⟨⟨f,at_,M⟩,k,ff⟩:=q
 dsimp only[placeV] at*
 have I0:LuI w ((w.alloc (.cells #[.slice none 0 0,.slice none 0 0] 84)).alloc (.cells #[.int .i64 0,.int .i64 0] 31)):=⟨by (repeat (first | assumption | exact Blk.newAt _ _ _ (by first | (simp;done) | (simp;omega)) | refine Blk.alloc ?_ _ | refine Blk.drew ?_ | refine Blk.drewN ?_ _ | refine Blk.far ?_ (by first | (simp;done) | (simp;omega)) _)),by (repeat (first | assumption | exact Blk.newAt _ _ _ (by first | (simp;done) | (simp;omega)) | refine Blk.alloc ?_ _ | refine Blk.drew ?_ | refine Blk.drewN ?_ _ | refine Blk.far ?_ (by first | (simp;done) | (simp;omega)) _)),by (repeat (first | with_reducible exact Below.refl _ _ | with_reducible assumption | (with_reducible refine below_alloc ?_ _) | (with_reducible refine Below.setCell ?_ (by first | omega | (simp;done) | (simp;omega)) _) | (with_reducible refine Below.drew ?_) | (with_reducible refine below_drewN ?_ _) | (refine below_then (by with_reducible assumption) ?_)))⟩
 have hz0:w.heap.size+2≤((w.alloc (.cells #[.slice none 0 0,.slice none 0 0] 84)).alloc (.cells #[.int .i64 0,.int .i64 0] 31)).heap.size:=by simp
 have HI0:=hid I0
 have HGD:=hid (fun (W:World)=>fault_good W k ff)
 clear I0 hl
 by_cases hk:k=0
 ·subst hk
  rw[if_pos rfl] at hRES
  rw[show decide ((0:Int)=0)=true from rfl] at HGD
  obtain⟨hfr,hfe,hfl,rfl⟩:=hok rfl
  have hfa:f.at_≤(B.length:Int):=by
   obtain⟨g0,g1,g2,g3,g4,g5,g6,g7,g8,g9⟩:=hfr
   omega
  have HFI:=hid (fun (W:World) (am:Option Addr) (nm cm:Nat) (h:rMarks.r (·<W.heap.size) W [.slice am nm cm] M)=>index_find W M am nm cm h hmr pos hp)
  have hmi:=fun m (h:fndM M pos=some m)=>fndM_in hmr h
  clear hok hfr hfe hfl
  generalize fndM M pos=o at*
  rcases o with _ | m
  ·dsimp only at hRES
   subst hRES
   have HFA:=hid (fun (W:World)=>fault_at W 16 0 (by decide))
   unfold LkpRet
   dsimp only
   go_enter Tryz.func48,Tryz.ntmps48
   go_upto_region 1 with (fail)
   generalize ((w.alloc (.cells #[.slice none 0 0,.slice none 0 0] 84)).alloc (.cells #[.int .i64 0,.int .i64 0] 31))=w0 at*
   go_wp2_with fail
   refine (HFN.out _ HI0.out.bl).mono ?_
   rintro r w1 ⟨v1,rfl,hr1,hb1⟩
   obtain⟨a1,c1,hv1,hr1',_⟩:=sl_form hr1
   simp only[List.cons.injEq,and_true] at hv1
   subst hv1
   have hgw:w.heap.size+2≤w1.heap.size:=Nat.le_trans hz0 hb1.size
   go_upto_region 2 with (fail)
   refine wp_world (fun W=>LuI w W∧Blk W w1.heap.size 186 #[.int .u64 f.ep,.int .i64 f.n,.int .i64 f.en,.int .u64 f.first,.int .u64 f.fin,.int .i64 f.at_,.int .i64 f.size,.int .i64 (at_:Int),.slice a1 M.length c1]∧Blk W (w1.heap.size+1) 31 #[.int .i64 0,.int .i64 0]∧rMarks.r (·<W.heap.size) W [.slice a1 M.length c1] M) ⟨HI0.out.later (hb1.trans ((by (repeat (first | with_reducible exact Below.refl _ _ | with_reducible assumption | (with_reducible refine below_alloc ?_ _) | (with_reducible refine Below.setCell ?_ (by first | omega | (simp;done) | (simp;omega)) _) | (with_reducible refine Below.drew ?_) | (with_reducible refine below_drewN ?_ _) | (refine below_then (by with_reducible assumption) ?_))):Below w1.heap.size w1 _).mono hb1.size)),by (repeat (first | assumption | exact Blk.newAt _ _ _ (by first | (simp;done) | (simp;omega)) | refine Blk.alloc ?_ _ | refine Blk.drew ?_ | refine Blk.drewN ?_ _ | refine Blk.far ?_ (by first | (simp;done) | (simp;omega)) _)),by (repeat (first | assumption | exact Blk.newAt _ _ _ (by first | (simp;done) | (simp;omega)) | refine Blk.alloc ?_ _ | refine Blk.drew ?_ | refine Blk.drewN ?_ _ | refine Blk.far ?_ (by first | (simp;done) | (simp;omega)) _)),rMarks.mono (rMarks.keep hr1' fun q hq=>(by (repeat (first | with_reducible exact Below.refl _ _ | with_reducible assumption | (with_reducible refine below_alloc ?_ _) | (with_reducible refine Below.setCell ?_ (by first | omega | (simp;done) | (simp;omega)) _) | (with_reducible refine Below.drew ?_) | (with_reducible refine below_drewN ?_ _) | (refine below_then (by with_reducible assumption) ?_))):Below w1.heap.size w1 _).block q hq.2) fun q hq=>by simp;have:=hq.2;omega⟩ ?_
   intro w2 ⟨hI,hP,hX,hM⟩
   have HI2:=hid hI;have HP2:=hid hP;have HX2:=hid hX;have HM2:=hid hM
   have hpx:w1.heap.size<w1.heap.size+1:=Nat.lt_succ_self _
   have hgx2:w.heap.size+2<w1.heap.size+1:=Nat.lt_succ_of_le hgw
   clear hI hP hX hM hr1 hr1' hb1 HI0 HFN
   generalize w1.heap.size+1=gx at*
   generalize w1.heap.size=gp at*
   have hgw2:=hgw
   clear hgw
   obtain⟨x0,x1,x2,x3,lx⟩:=f_blk HX2.out
   go_wp2_with fail
   refine (HGD.out _).mono ?_
   rintro r w3 ⟨rfl,hb3⟩
   have HI:=hid (HI2.out.later hb3)
   have HP:=hid (HP2.out.later hb3)
   have HX:=hid (HX2.out.later hb3)
   have HM:=hid (lift HM2.out hb3)
   clear x0 x1 x2 x3 lx HI2 HP2 HX2 HM2 hb3 HGD
   obtain⟨x0,x1,x2,x3,lx⟩:=f_blk HX.out
   obtain⟨p0,p1,p2,p3,p4,p5,p6,p7,p8,lp⟩:=p9_blk HP.out
   go_wp2_with fail
   refine (HFI.out _ a1 _ c1 HM.out).mono ?_
   rintro r w4 ⟨rfl,hb4⟩
   dsimp only[markV,Option.isSome]
   have HI4:=hid (HI.out.later hb4)
   have HP4:=hid (HP.out.later hb4)
   have HX4:=hid (HX.out.later hb4)
   have hw4:=Nat.lt_of_lt_of_le lx hb4.size
   clear x0 x1 x2 x3 lx p0 p1 p2 p3 p4 p5 p6 p7 p8 lp HI HP HX HM hb4 HFI
   go_upto_region 5 with (fail)
   refine wp_world (fun W=>LuI w W∧Blk W gp 186 #[.int .u64 f.ep,.int .i64 f.n,.int .i64 f.en,.int .u64 f.first,.int .u64 f.fin,.int .i64 f.at_,.int .i64 f.size,.int .i64 (at_:Int),.slice a1 M.length c1]∧Blk W gx 31 #[.int .i64 0,.int .i64 0]∧Blk W w4.heap.size 141 #[.int .u64 0,.int .i64 0,.int .i64 0]) ⟨HI4.out.later (by (repeat (first | with_reducible exact Below.refl _ _ | with_reducible assumption | (with_reducible refine below_alloc ?_ _) | (with_reducible refine Below.setCell ?_ (by first | omega | (simp;done) | (simp;omega)) _) | (with_reducible refine Below.drew ?_) | (with_reducible refine below_drewN ?_ _) | (refine below_then (by with_reducible assumption) ?_)))),HP4.out.later (by (repeat (first | with_reducible exact Below.refl _ _ | with_reducible assumption | (with_reducible refine below_alloc ?_ _) | (with_reducible refine Below.setCell ?_ (by first | omega | (simp;done) | (simp;omega)) _) | (with_reducible refine Below.drew ?_) | (with_reducible refine below_drewN ?_ _) | (refine below_then (by with_reducible assumption) ?_)))),HX4.out.later (by (repeat (first | with_reducible exact Below.refl _ _ | with_reducible assumption | (with_reducible refine below_alloc ?_ _) | (with_reducible refine Below.setCell ?_ (by first | omega | (simp;done) | (simp;omega)) _) | (with_reducible refine Below.drew ?_) | (with_reducible refine below_drewN ?_ _) | (refine below_then (by with_reducible assumption) ?_)))),by (repeat (first | assumption | exact Blk.newAt _ _ _ (by first | (simp;done) | (simp;omega)) | refine Blk.alloc ?_ _ | refine Blk.drew ?_ | refine Blk.drewN ?_ _ | refine Blk.far ?_ (by first | (simp;done) | (simp;omega)) _))⟩ ?_
   intro w5 ⟨hI,hP,hX,hQ⟩
   have HI:=hid hI;have HP:=hid hP;have HX:=hid hX;have HQ:=hid hQ
   generalize w4.heap.size=gm at*
   clear hI hP hX hQ HI4 HP4 HX4
   obtain⟨x0,x1,x2,x3,lx⟩:=f_blk HX.out
   go_wp2_with fail
   refine (HFA.out _).mono ?_
   rintro r w6 ⟨rfl,hb6⟩
   have I9:=HI.out.later hb6
   obtain⟨m0,m1,g0,g1,lm⟩:=e2_blk I9.rb
   obtain⟨q0,q1,q2,q3,lq⟩:=f_blk I9.fb
   have hbl:=I9.bl
   clear I9
   go_wp2_with fail
   all_goals refine bodyPost_ret (v:=.tuple #[.agg #[.slice none 0 0,.slice none 0 0],.agg #[.int .i64 16,.int .i64 0]]) (by simp[results,Tryz.results48,go_sem,m0,m1,q0,q1,lm,lq]) rfl ⟨rfl,by (repeat (first | with_reducible exact Below.refl _ _ | with_reducible assumption | (with_reducible refine below_alloc ?_ _) | (with_reducible refine Below.setCell ?_ (by first | omega | (simp;done) | (simp;omega)) _) | (with_reducible refine Below.drew ?_) | (with_reducible refine below_drewN ?_ _) | (refine below_then (by with_reducible assumption) ?_)))⟩
  ·dsimp only at hRES
   have hat:=hmi m rfl
   clear hmi
   have HBA:=hid (fun (W:World) (hW:Below w.heap.size w W)=>HBA.out W hW m f.at_ (by omega) hfa)
   have hbr:=batAt_right (B:=B) (m:=m) (e:=f.at_)
   generalize batAt B m f.at_=X at*
   obtain⟨b,bk,bf⟩:=X
   dsimp only at*
   by_cases hbk:bk=0
   ·rw[if_pos hbk] at hRES
    subst hbk
    subst hRES
    obtain⟨hb1,hb2,rfl⟩:=hbr rfl
    obtain⟨hr1,hr2,hr3,hr4,hr5,hr6⟩:=batchR_facts hb1
    have hmild:=(fair_of hb1).2.2
    have HPK:=hid (fun (W:World) (ab:Option Addr) (nb cb:Nat) (h:rEntries.r (·<W.heap.size) W [.slice ab nb cb] b.entries)=>peek_at b pos ab nb cb W hb2.2.1.1 (by omega) hp h hmild)
    clear hb1 hb2 hr1 hr2 hr3 hr4 hr5 hr6 hmild hbr
    go_enter Tryz.func48,Tryz.ntmps48
    go_upto_region 1 with (fail)
    generalize ((w.alloc (.cells #[.slice none 0 0,.slice none 0 0] 84)).alloc (.cells #[.int .i64 0,.int .i64 0] 31))=w0 at*
    go_wp2_with fail
    refine (HFN.out _ HI0.out.bl).mono ?_
    rintro r w1 ⟨v1,rfl,hr1,hb1⟩
    obtain⟨a1,c1,hv1,hr1',_⟩:=sl_form hr1
    simp only[List.cons.injEq,and_true] at hv1
    subst hv1
    have hgw:w.heap.size+2≤w1.heap.size:=Nat.le_trans hz0 hb1.size
    go_upto_region 2 with (fail)
    refine wp_world (fun W=>LuI w W∧Blk W w1.heap.size 186 #[.int .u64 f.ep,.int .i64 f.n,.int .i64 f.en,.int .u64 f.first,.int .u64 f.fin,.int .i64 f.at_,.int .i64 f.size,.int .i64 (at_:Int),.slice a1 M.length c1]∧Blk W (w1.heap.size+1) 31 #[.int .i64 0,.int .i64 0]∧rMarks.r (·<W.heap.size) W [.slice a1 M.length c1] M) ⟨HI0.out.later (hb1.trans ((by (repeat (first | with_reducible exact Below.refl _ _ | with_reducible assumption | (with_reducible refine below_alloc ?_ _) | (with_reducible refine Below.setCell ?_ (by first | omega | (simp;done) | (simp;omega)) _) | (with_reducible refine Below.drew ?_) | (with_reducible refine below_drewN ?_ _) | (refine below_then (by with_reducible assumption) ?_))):Below w1.heap.size w1 _).mono hb1.size)),by (repeat (first | assumption | exact Blk.newAt _ _ _ (by first | (simp;done) | (simp;omega)) | refine Blk.alloc ?_ _ | refine Blk.drew ?_ | refine Blk.drewN ?_ _ | refine Blk.far ?_ (by first | (simp;done) | (simp;omega)) _)),by (repeat (first | assumption | exact Blk.newAt _ _ _ (by first | (simp;done) | (simp;omega)) | refine Blk.alloc ?_ _ | refine Blk.drew ?_ | refine Blk.drewN ?_ _ | refine Blk.far ?_ (by first | (simp;done) | (simp;omega)) _)),rMarks.mono (rMarks.keep hr1' fun q hq=>(by (repeat (first | with_reducible exact Below.refl _ _ | with_reducible assumption | (with_reducible refine below_alloc ?_ _) | (with_reducible refine Below.setCell ?_ (by first | omega | (simp;done) | (simp;omega)) _) | (with_reducible refine Below.drew ?_) | (with_reducible refine below_drewN ?_ _) | (refine below_then (by with_reducible assumption) ?_))):Below w1.heap.size w1 _).block q hq.2) fun q hq=>by simp;have:=hq.2;omega⟩ ?_
    intro w2 ⟨hI,hP,hX,hM⟩
    have HI2:=hid hI;have HP2:=hid hP;have HX2:=hid hX;have HM2:=hid hM
    have hpx:w1.heap.size<w1.heap.size+1:=Nat.lt_succ_self _
    have hgx2:w.heap.size+2<w1.heap.size+1:=Nat.lt_succ_of_le hgw
    clear hI hP hX hM hr1 hr1' hb1 HI0 HFN
    generalize w1.heap.size+1=gx at*
    generalize w1.heap.size=gp at*
    have hgw2:=hgw
    clear hgw
    obtain⟨x0,x1,x2,x3,lx⟩:=f_blk HX2.out
    go_wp2_with fail
    refine (HGD.out _).mono ?_
    rintro r w3 ⟨rfl,hb3⟩
    have HI:=hid (HI2.out.later hb3)
    have HP:=hid (HP2.out.later hb3)
    have HX:=hid (HX2.out.later hb3)
    have HM:=hid (lift HM2.out hb3)
    clear x0 x1 x2 x3 lx HI2 HP2 HX2 HM2 hb3 HGD
    obtain⟨x0,x1,x2,x3,lx⟩:=f_blk HX.out
    obtain⟨p0,p1,p2,p3,p4,p5,p6,p7,p8,lp⟩:=p9_blk HP.out
    go_wp2_with fail
    refine (HFI.out _ a1 _ c1 HM.out).mono ?_
    rintro r w4 ⟨rfl,hb4⟩
    dsimp only[markV,Option.isSome]
    have HI4:=hid (HI.out.later hb4)
    have HP4:=hid (HP.out.later hb4)
    have HX4:=hid (HX.out.later hb4)
    have hw4:=Nat.lt_of_lt_of_le lx hb4.size
    clear x0 x1 x2 x3 lx p0 p1 p2 p3 p4 p5 p6 p7 p8 lp HI HP HX HM hb4 HFI
    go_upto_region 5 with (fail)
    refine wp_world (fun W=>LuI w W∧Blk W gp 186 #[.int .u64 f.ep,.int .i64 f.n,.int .i64 f.en,.int .u64 f.first,.int .u64 f.fin,.int .i64 f.at_,.int .i64 f.size,.int .i64 (at_:Int),.slice a1 M.length c1]∧Blk W gx 31 #[.int .i64 0,.int .i64 0]∧Blk W w4.heap.size 141 #[.int .u64 m.pos,.int .i64 m.count,.int .i64 m.at_]) ⟨HI4.out.later (by (repeat (first | with_reducible exact Below.refl _ _ | with_reducible assumption | (with_reducible refine below_alloc ?_ _) | (with_reducible refine Below.setCell ?_ (by first | omega | (simp;done) | (simp;omega)) _) | (with_reducible refine Below.drew ?_) | (with_reducible refine below_drewN ?_ _) | (refine below_then (by with_reducible assumption) ?_)))),HP4.out.later (by (repeat (first | with_reducible exact Below.refl _ _ | with_reducible assumption | (with_reducible refine below_alloc ?_ _) | (with_reducible refine Below.setCell ?_ (by first | omega | (simp;done) | (simp;omega)) _) | (with_reducible refine Below.drew ?_) | (with_reducible refine below_drewN ?_ _) | (refine below_then (by with_reducible assumption) ?_)))),HX4.out.later (by (repeat (first | with_reducible exact Below.refl _ _ | with_reducible assumption | (with_reducible refine below_alloc ?_ _) | (with_reducible refine Below.setCell ?_ (by first | omega | (simp;done) | (simp;omega)) _) | (with_reducible refine Below.drew ?_) | (with_reducible refine below_drewN ?_ _) | (refine below_then (by with_reducible assumption) ?_)))),by (repeat (first | assumption | exact Blk.newAt _ _ _ (by first | (simp;done) | (simp;omega)) | refine Blk.alloc ?_ _ | refine Blk.drew ?_ | refine Blk.drewN ?_ _ | refine Blk.far ?_ (by first | (simp;done) | (simp;omega)) _))⟩ ?_
    intro w5 ⟨hI,hP,hX,hQ⟩
    have HI:=hid hI;have HP:=hid hP;have HX:=hid hX;have HQ:=hid hQ
    generalize w4.heap.size=gm at*
    clear hI hP hX hQ HI4 HP4 HX4
    obtain⟨x0,x1,x2,x3,lx⟩:=f_blk HX.out
    have hx5:=lx
    obtain⟨p0,p1,p2,p3,p4,p5,p6,p7,p8,lp⟩:=p9_blk HP.out
    obtain⟨y0,y1,y2,ly⟩:=m3_blk HQ.out
    go_wp2_with fail
    refine (HBA.out _ HI.out.bl).mono ?_
    rintro r w6 ⟨v6,rfl,hr6,hb6⟩
    obtain⟨a5,c5,hv6,hr6',_⟩:=sl_form hr6
    simp only[List.cons.injEq,and_true] at hv6
    subst hv6
    have HI6:=hid (HI.out.later hb6)
    have HX6:=hid (HX.out.later hb6)
    have hx6:=Nat.lt_of_lt_of_le lx hb6.size
    clear x0 x1 x2 x3 lx p0 p1 p2 p3 p4 p5 p6 p7 p8 lp y0 y1 y2 ly HI HX HP HQ hb6 HBA
    obtain⟨x0,x1,x2,x3,lx⟩:=f_blk HX6.out
    go_upto_region 8 with (fail)
    refine wp_world (fun W=>LuI w W∧Blk W gx 31 #[.int .i64 0,.int .i64 0]∧Blk W w6.heap.size 60 #[.int .u64 b.epoch,.int .u64 b.base,.slice a5 b.entries.length c5]∧rEntries.r (fun q=>w5.heap.size≤q∧q<w6.heap.size) W [.slice a5 b.entries.length c5] b.entries∧w6.heap.size<W.heap.size) ⟨HI6.out.lo (lo:=gx) (by (repeat (first | with_reducible exact Below.refl _ _ | with_reducible assumption | (with_reducible refine Below.setCell ?_ (by first | omega | (simp;done) | (simp;omega)) _) | (refine Below.alloc ?_ (by first | omega | (simp[World.setCell];omega)) _)))) (by omega),((HX6.out.set 0 _).set 1 _).alloc _,Blk.newAt _ _ _ (by simp[World.setCell]),rEntries.keep hr6' fun q hq=>by {have h1:=hq.1;have h2:=hq.2;rw[Below.heap_alloc _ _ q (by simp[World.setCell];omega)];repeat (rw[Below.heap_setCell _ _ _ _ (by dsimp only;omega)])},by simp[World.setCell]⟩ ?_
    intro w6' ⟨hI,hX,hV,hE,hz⟩
    have HI6:=hid hI;have HX6:=hid hX;have HV6:=hid hV;have HE6:=hid hE
    clear hI hX hV hE x0 x1 x2 x3 lx hr6 hr6'
    obtain⟨x0,x1,x2,x3,lx⟩:=f_blk HX6.out
    have HGB:=hid (fun (W:World)=>fault_good W 0 0)
    rw[show decide ((0:Int)=0)=true from rfl] at HGB
    go_wp2_with fail
    refine (HGB.out _).mono ?_
    rintro r w7 ⟨rfl,hb7⟩
    have HI:=hid (HI6.out.later hb7)
    have HX:=hid (HX6.out.later hb7)
    have HV:=hid (HV6.out.later hb7)
    have HE:=hid (rEntries.keep HE6.out fun q hq=>hb7.block q (by have:=hq.2;omega))
    have hz7:=Nat.lt_of_lt_of_le hz hb7.size
    clear HI6 HX6 HV6 HE6 hb7 HGB x0 x1 x2 x3 lx
    obtain⟨x0,x1,x2,x3,lx⟩:=f_blk HX.out
    obtain⟨v0,v1,v2,lv⟩:=m3_blk HV.out
    go_wp2_with fail
    refine (HPK.out _ a5 _ c5 (rEntries.mono HE.out fun q hq=>by omega)).mono ?_
    generalize findB b pos=o at*
    rcases o with _ | e
    ·unfold EntRet LkpRet
     dsimp only
     rintro r w8 ⟨rfl,hb8⟩
     have I9:=HI.out.later hb8
     clear v0 v1 v2 lv x0 x1 x2 x3 lx
     obtain⟨m0,m1,g0,g1,lm⟩:=e2_blk I9.rb
     obtain⟨q0,q1,q2,q3,lq⟩:=f_blk I9.fb
     have hbl:=I9.bl
     clear I9
     go_wp2_with fail
     all_goals refine bodyPost_ret (v:=.tuple #[.agg #[.slice none 0 0,.slice none 0 0],.agg #[.int .i64 0,.int .i64 0]]) (by simp[results,Tryz.results48,go_sem,m0,m1,q0,q1,lm,lq]) rfl ⟨rfl,by (repeat (first | with_reducible exact Below.refl _ _ | with_reducible assumption | (with_reducible refine below_alloc ?_ _) | (with_reducible refine Below.setCell ?_ (by first | omega | (simp;done) | (simp;omega)) _) | (with_reducible refine Below.drew ?_) | (with_reducible refine below_drewN ?_ _) | (refine below_then (by with_reducible assumption) ?_)))⟩
    ·unfold EntRet LkpRet
     dsimp only
     rintro r w8 ⟨v1',v2',rfl,hl1,hd1,hb8⟩
     have I9:=HI.out.later hb8
     obtain⟨la,lc,hlv,hl2,_⟩:=sl_form hl1
     simp only[List.cons.injEq,and_true] at hlv
     subst hlv
     obtain⟨da,dc,hdv,hd2,_⟩:=sl_form hd1
     simp only[List.cons.injEq,and_true] at hdv
     subst hdv
     have HL2:=hid hl2
     have HD2:=hid hd2
     have hsw:w.heap.size≤w7.heap.size:=HI.out.bl.size
     have hlw:w.heap.size+1<w7.heap.size:=HI.out.fb.lt
     clear v0 v1 v2 lv x0 x1 x2 x3 lx hl1 hl2 hd1 hd2
     obtain⟨m0,m1,g0,g1,lm⟩:=e2_blk I9.rb
     obtain⟨q0,q1,q2,q3,lq⟩:=f_blk I9.fb
     have hbl:=I9.bl
     clear I9
     go_wp2_with fail
     all_goals refine bodyPost_ret (v:=.tuple #[.agg #[.slice la e.links.length lc,.slice da e.data.length dc],.agg #[.int .i64 0,.int .i64 0]]) (by simp[results,Tryz.results48,go_sem,m0,m1,q0,q1,lm,lq]) rfl ⟨_,_,rfl,?_,?_,by (repeat (first | with_reducible exact Below.refl _ _ | with_reducible assumption | (with_reducible refine below_alloc ?_ _) | (with_reducible refine Below.setCell ?_ (by first | omega | (simp;done) | (simp;omega)) _) | (with_reducible refine Below.drew ?_) | (with_reducible refine below_drewN ?_ _) | (refine below_then (by with_reducible assumption) ?_)))⟩
     ·exact rLinks.mono (rLinks.keep HL2.out fun q hq=>by {have h1:w7.heap.size≤q:=hq.1;have h2:q<w8.heap.size:=hq.2;rw[Below.heap_alloc _ _ q (by simp[World.setCell];omega)];repeat (rw[Below.heap_setCell _ _ _ _ (by dsimp only;omega)])}) fun q hq=>⟨by have:=hq.1;omega,by simp[World.setCell];have:=hq.2;omega⟩
     ·exact rBytes.mono (rBytes.keep HD2.out fun q hq=>by {have h1:w7.heap.size≤q:=hq.1;have h2:q<w8.heap.size:=hq.2;rw[Below.heap_alloc _ _ q (by simp[World.setCell];omega)];repeat (rw[Below.heap_setCell _ _ _ _ (by dsimp only;omega)])}) fun q hq=>⟨by have:=hq.1;omega,by simp[World.setCell];have:=hq.2;omega⟩
   ·rw[if_neg hbk] at hRES
    subst hRES
    unfold LkpRet
    dsimp only
    have HGB:=hid (fun (W:World)=>fault_good W bk bf)
    rw[decide_eq_false hbk] at HGB
    clear hbr hbk
    go_enter Tryz.func48,Tryz.ntmps48
    go_upto_region 1 with (fail)
    generalize ((w.alloc (.cells #[.slice none 0 0,.slice none 0 0] 84)).alloc (.cells #[.int .i64 0,.int .i64 0] 31))=w0 at*
    go_wp2_with fail
    refine (HFN.out _ HI0.out.bl).mono ?_
    rintro r w1 ⟨v1,rfl,hr1,hb1⟩
    obtain⟨a1,c1,hv1,hr1',_⟩:=sl_form hr1
    simp only[List.cons.injEq,and_true] at hv1
    subst hv1
    have hgw:w.heap.size+2≤w1.heap.size:=Nat.le_trans hz0 hb1.size
    go_upto_region 2 with (fail)
    refine wp_world (fun W=>LuI w W∧Blk W w1.heap.size 186 #[.int .u64 f.ep,.int .i64 f.n,.int .i64 f.en,.int .u64 f.first,.int .u64 f.fin,.int .i64 f.at_,.int .i64 f.size,.int .i64 (at_:Int),.slice a1 M.length c1]∧Blk W (w1.heap.size+1) 31 #[.int .i64 0,.int .i64 0]∧rMarks.r (·<W.heap.size) W [.slice a1 M.length c1] M) ⟨HI0.out.later (hb1.trans ((by (repeat (first | with_reducible exact Below.refl _ _ | with_reducible assumption | (with_reducible refine below_alloc ?_ _) | (with_reducible refine Below.setCell ?_ (by first | omega | (simp;done) | (simp;omega)) _) | (with_reducible refine Below.drew ?_) | (with_reducible refine below_drewN ?_ _) | (refine below_then (by with_reducible assumption) ?_))):Below w1.heap.size w1 _).mono hb1.size)),by (repeat (first | assumption | exact Blk.newAt _ _ _ (by first | (simp;done) | (simp;omega)) | refine Blk.alloc ?_ _ | refine Blk.drew ?_ | refine Blk.drewN ?_ _ | refine Blk.far ?_ (by first | (simp;done) | (simp;omega)) _)),by (repeat (first | assumption | exact Blk.newAt _ _ _ (by first | (simp;done) | (simp;omega)) | refine Blk.alloc ?_ _ | refine Blk.drew ?_ | refine Blk.drewN ?_ _ | refine Blk.far ?_ (by first | (simp;done) | (simp;omega)) _)),rMarks.mono (rMarks.keep hr1' fun q hq=>(by (repeat (first | with_reducible exact Below.refl _ _ | with_reducible assumption | (with_reducible refine below_alloc ?_ _) | (with_reducible refine Below.setCell ?_ (by first | omega | (simp;done) | (simp;omega)) _) | (with_reducible refine Below.drew ?_) | (with_reducible refine below_drewN ?_ _) | (refine below_then (by with_reducible assumption) ?_))):Below w1.heap.size w1 _).block q hq.2) fun q hq=>by simp;have:=hq.2;omega⟩ ?_
    intro w2 ⟨hI,hP,hX,hM⟩
    have HI2:=hid hI;have HP2:=hid hP;have HX2:=hid hX;have HM2:=hid hM
    have hpx:w1.heap.size<w1.heap.size+1:=Nat.lt_succ_self _
    have hgx2:w.heap.size+2<w1.heap.size+1:=Nat.lt_succ_of_le hgw
    clear hI hP hX hM hr1 hr1' hb1 HI0 HFN
    generalize w1.heap.size+1=gx at*
    generalize w1.heap.size=gp at*
    have hgw2:=hgw
    clear hgw
    obtain⟨x0,x1,x2,x3,lx⟩:=f_blk HX2.out
    go_wp2_with fail
    refine (HGD.out _).mono ?_
    rintro r w3 ⟨rfl,hb3⟩
    have HI:=hid (HI2.out.later hb3)
    have HP:=hid (HP2.out.later hb3)
    have HX:=hid (HX2.out.later hb3)
    have HM:=hid (lift HM2.out hb3)
    clear x0 x1 x2 x3 lx HI2 HP2 HX2 HM2 hb3 HGD
    obtain⟨x0,x1,x2,x3,lx⟩:=f_blk HX.out
    obtain⟨p0,p1,p2,p3,p4,p5,p6,p7,p8,lp⟩:=p9_blk HP.out
    go_wp2_with fail
    refine (HFI.out _ a1 _ c1 HM.out).mono ?_
    rintro r w4 ⟨rfl,hb4⟩
    dsimp only[markV,Option.isSome]
    have HI4:=hid (HI.out.later hb4)
    have HP4:=hid (HP.out.later hb4)
    have HX4:=hid (HX.out.later hb4)
    have hw4:=Nat.lt_of_lt_of_le lx hb4.size
    clear x0 x1 x2 x3 lx p0 p1 p2 p3 p4 p5 p6 p7 p8 lp HI HP HX HM hb4 HFI
    go_upto_region 5 with (fail)
    refine wp_world (fun W=>LuI w W∧Blk W gp 186 #[.int .u64 f.ep,.int .i64 f.n,.int .i64 f.en,.int .u64 f.first,.int .u64 f.fin,.int .i64 f.at_,.int .i64 f.size,.int .i64 (at_:Int),.slice a1 M.length c1]∧Blk W gx 31 #[.int .i64 0,.int .i64 0]∧Blk W w4.heap.size 141 #[.int .u64 m.pos,.int .i64 m.count,.int .i64 m.at_]) ⟨HI4.out.later (by (repeat (first | with_reducible exact Below.refl _ _ | with_reducible assumption | (with_reducible refine below_alloc ?_ _) | (with_reducible refine Below.setCell ?_ (by first | omega | (simp;done) | (simp;omega)) _) | (with_reducible refine Below.drew ?_) | (with_reducible refine below_drewN ?_ _) | (refine below_then (by with_reducible assumption) ?_)))),HP4.out.later (by (repeat (first | with_reducible exact Below.refl _ _ | with_reducible assumption | (with_reducible refine below_alloc ?_ _) | (with_reducible refine Below.setCell ?_ (by first | omega | (simp;done) | (simp;omega)) _) | (with_reducible refine Below.drew ?_) | (with_reducible refine below_drewN ?_ _) | (refine below_then (by with_reducible assumption) ?_)))),HX4.out.later (by (repeat (first | with_reducible exact Below.refl _ _ | with_reducible assumption | (with_reducible refine below_alloc ?_ _) | (with_reducible refine Below.setCell ?_ (by first | omega | (simp;done) | (simp;omega)) _) | (with_reducible refine Below.drew ?_) | (with_reducible refine below_drewN ?_ _) | (refine below_then (by with_reducible assumption) ?_)))),by (repeat (first | assumption | exact Blk.newAt _ _ _ (by first | (simp;done) | (simp;omega)) | refine Blk.alloc ?_ _ | refine Blk.drew ?_ | refine Blk.drewN ?_ _ | refine Blk.far ?_ (by first | (simp;done) | (simp;omega)) _))⟩ ?_
    intro w5 ⟨hI,hP,hX,hQ⟩
    have HI:=hid hI;have HP:=hid hP;have HX:=hid hX;have HQ:=hid hQ
    generalize w4.heap.size=gm at*
    clear hI hP hX hQ HI4 HP4 HX4
    obtain⟨x0,x1,x2,x3,lx⟩:=f_blk HX.out
    have hx5:=lx
    obtain⟨p0,p1,p2,p3,p4,p5,p6,p7,p8,lp⟩:=p9_blk HP.out
    obtain⟨y0,y1,y2,ly⟩:=m3_blk HQ.out
    go_wp2_with fail
    refine (HBA.out _ HI.out.bl).mono ?_
    rintro r w6 ⟨v6,rfl,hr6,hb6⟩
    obtain⟨a5,c5,hv6,hr6',_⟩:=sl_form hr6
    simp only[List.cons.injEq,and_true] at hv6
    subst hv6
    have HI6:=hid (HI.out.later hb6)
    have HX6:=hid (HX.out.later hb6)
    have hx6:=Nat.lt_of_lt_of_le lx hb6.size
    clear x0 x1 x2 x3 lx p0 p1 p2 p3 p4 p5 p6 p7 p8 lp y0 y1 y2 ly HI HX HP HQ hb6 HBA
    obtain⟨x0,x1,x2,x3,lx⟩:=f_blk HX6.out
    go_upto_region 8 with (fail)
    refine wp_world (fun W=>LuI w W∧Blk W gx 31 #[.int .i64 bk,.int .i64 bf]∧Blk W w6.heap.size 60 #[.int .u64 b.epoch,.int .u64 b.base,.slice a5 b.entries.length c5]∧rEntries.r (fun q=>w5.heap.size≤q∧q<w6.heap.size) W [.slice a5 b.entries.length c5] b.entries∧w6.heap.size<W.heap.size) ⟨HI6.out.lo (lo:=gx) (by (repeat (first | with_reducible exact Below.refl _ _ | with_reducible assumption | (with_reducible refine Below.setCell ?_ (by first | omega | (simp;done) | (simp;omega)) _) | (refine Below.alloc ?_ (by first | omega | (simp[World.setCell];omega)) _)))) (by omega),((HX6.out.set 0 _).set 1 _).alloc _,Blk.newAt _ _ _ (by simp[World.setCell]),rEntries.keep hr6' fun q hq=>by {have h1:=hq.1;have h2:=hq.2;rw[Below.heap_alloc _ _ q (by simp[World.setCell];omega)];repeat (rw[Below.heap_setCell _ _ _ _ (by dsimp only;omega)])},by simp[World.setCell]⟩ ?_
    intro w6' ⟨hI,hX,hV,hE,hz⟩
    have HI6:=hid hI;have HX6:=hid hX;have HV6:=hid hV;have HE6:=hid hE
    clear hI hX hV hE x0 x1 x2 x3 lx hr6 hr6'
    obtain⟨x0,x1,x2,x3,lx⟩:=f_blk HX6.out
    go_wp2_with fail
    refine (HGB.out _).mono ?_
    rintro r w7 ⟨rfl,hb7⟩
    have HI:=hid (HI6.out.later hb7)
    have HX:=hid (HX6.out.later hb7)
    have HV:=hid (HV6.out.later hb7)
    have HE:=hid (rEntries.keep HE6.out fun q hq=>hb7.block q (by have:=hq.2;omega))
    have hz7:=Nat.lt_of_lt_of_le hz hb7.size
    clear HI6 HX6 HV6 HE6 hb7 HGB x0 x1 x2 x3 lx
    obtain⟨x0,x1,x2,x3,lx⟩:=f_blk HX.out
    have I9:=HI.out
    obtain⟨m0,m1,g0,g1,lm⟩:=e2_blk I9.rb
    obtain⟨q0,q1,q2,q3,lq⟩:=f_blk I9.fb
    have hbl:=I9.bl
    clear I9
    go_wp2_with fail
    go_region
    all_goals go_wp2
    all_goals refine bodyPost_ret (v:=.tuple #[.agg #[.slice none 0 0,.slice none 0 0],.agg #[.int .i64 bk,.int .i64 bf]]) (by simp[results,Tryz.results48,go_sem,m0,m1,q0,q1,lm,lq]) rfl ⟨rfl,by (repeat (first | with_reducible exact Below.refl _ _ | with_reducible assumption | (with_reducible refine below_alloc ?_ _) | (with_reducible refine Below.setCell ?_ (by first | omega | (simp;done) | (simp;omega)) _) | (with_reducible refine Below.drew ?_) | (with_reducible refine below_drewN ?_ _) | (refine below_then (by with_reducible assumption) ?_)))⟩
 ·rw[if_neg hk] at hRES
  subst hRES
  unfold LkpRet
  dsimp only
  rw[decide_eq_false hk] at HGD
  clear hok hk HBA
  go_enter Tryz.func48,Tryz.ntmps48
  go_upto_region 1 with (fail)
  generalize ((w.alloc (.cells #[.slice none 0 0,.slice none 0 0] 84)).alloc (.cells #[.int .i64 0,.int .i64 0] 31))=w0 at*
  go_wp2_with fail
  refine (HFN.out _ HI0.out.bl).mono ?_
  rintro r w1 ⟨v1,rfl,hr1,hb1⟩
  obtain⟨a1,c1,hv1,hr1',_⟩:=sl_form hr1
  simp only[List.cons.injEq,and_true] at hv1
  subst hv1
  have hgw:w.heap.size+2≤w1.heap.size:=Nat.le_trans hz0 hb1.size
  go_upto_region 2 with (fail)
  refine wp_world (fun W=>LuI w W∧Blk W w1.heap.size 186 #[.int .u64 f.ep,.int .i64 f.n,.int .i64 f.en,.int .u64 f.first,.int .u64 f.fin,.int .i64 f.at_,.int .i64 f.size,.int .i64 (at_:Int),.slice a1 M.length c1]∧Blk W (w1.heap.size+1) 31 #[.int .i64 k,.int .i64 ff]∧rMarks.r (·<W.heap.size) W [.slice a1 M.length c1] M) ⟨HI0.out.later (hb1.trans ((by (repeat (first | with_reducible exact Below.refl _ _ | with_reducible assumption | (with_reducible refine below_alloc ?_ _) | (with_reducible refine Below.setCell ?_ (by first | omega | (simp;done) | (simp;omega)) _) | (with_reducible refine Below.drew ?_) | (with_reducible refine below_drewN ?_ _) | (refine below_then (by with_reducible assumption) ?_))):Below w1.heap.size w1 _).mono hb1.size)),by (repeat (first | assumption | exact Blk.newAt _ _ _ (by first | (simp;done) | (simp;omega)) | refine Blk.alloc ?_ _ | refine Blk.drew ?_ | refine Blk.drewN ?_ _ | refine Blk.far ?_ (by first | (simp;done) | (simp;omega)) _)),by (repeat (first | assumption | exact Blk.newAt _ _ _ (by first | (simp;done) | (simp;omega)) | refine Blk.alloc ?_ _ | refine Blk.drew ?_ | refine Blk.drewN ?_ _ | refine Blk.far ?_ (by first | (simp;done) | (simp;omega)) _)),rMarks.mono (rMarks.keep hr1' fun q hq=>(by (repeat (first | with_reducible exact Below.refl _ _ | with_reducible assumption | (with_reducible refine below_alloc ?_ _) | (with_reducible refine Below.setCell ?_ (by first | omega | (simp;done) | (simp;omega)) _) | (with_reducible refine Below.drew ?_) | (with_reducible refine below_drewN ?_ _) | (refine below_then (by with_reducible assumption) ?_))):Below w1.heap.size w1 _).block q hq.2) fun q hq=>by simp;have:=hq.2;omega⟩ ?_
  intro w2 ⟨hI,hP,hX,hM⟩
  have HI2:=hid hI;have HP2:=hid hP;have HX2:=hid hX;have HM2:=hid hM
  have hpx:w1.heap.size<w1.heap.size+1:=Nat.lt_succ_self _
  have hgx2:w.heap.size+2<w1.heap.size+1:=Nat.lt_succ_of_le hgw
  clear hI hP hX hM hr1 hr1' hb1 HI0 HFN
  generalize w1.heap.size+1=gx at*
  generalize w1.heap.size=gp at*
  have hgw2:=hgw
  clear hgw
  obtain⟨x0,x1,x2,x3,lx⟩:=f_blk HX2.out
  go_wp2_with fail
  refine (HGD.out _).mono ?_
  rintro r w3 ⟨rfl,hb3⟩
  have HI:=hid (HI2.out.later hb3)
  have HP:=hid (HP2.out.later hb3)
  have HX:=hid (HX2.out.later hb3)
  have HM:=hid (lift HM2.out hb3)
  clear x0 x1 x2 x3 lx HI2 HP2 HX2 HM2 hb3 HGD
  obtain⟨x0,x1,x2,x3,lx⟩:=f_blk HX.out
  have I9:=HI.out
  obtain⟨m0,m1,g0,g1,lm⟩:=e2_blk I9.rb
  obtain⟨q0,q1,q2,q3,lq⟩:=f_blk I9.fb
  have hbl:=I9.bl
  clear I9
  go_wp2_with fail
  go_region
  all_goals go_wp2
  all_goals refine bodyPost_ret (v:=.tuple #[.agg #[.slice none 0 0,.slice none 0 0],.agg #[.int .i64 k,.int .i64 ff]]) (by simp[results,Tryz.results48,go_sem,m0,m1,q0,q1,lm,lq]) rfl ⟨rfl,by (repeat (first | with_reducible exact Below.refl _ _ | with_reducible assumption | (with_reducible refine below_alloc ?_ _) | (with_reducible refine Below.setCell ?_ (by first | omega | (simp;done) | (simp;omega)) _) | (with_reducible refine Below.drew ?_) | (with_reducible refine below_drewN ?_ _) | (refine below_then (by with_reducible assumption) ?_)))⟩
theorem looked_cmp(x y u v:Int)(hx:0≤x∧x≤1000000000000000)(hu:0≤u∧u≤1000000000000000)(W:World):Calls Tryz.prog 132 #[.agg #[.int .i64 x,.int .i64 y],.agg #[.int .i64 u,.int .i64 v]] W fun r w'=>r=.returned (.int .i64 (x-u))∧Below W.heap.size W w':=by
 have b1: -9223372036854775808≤x-u:=by omega
 have b2:x-u≤9223372036854775807:=by omega
 go_enter Tryz.func132,Tryz.ntmps132
 go_wp2
 go_ret
 exact⟨rfl,by (repeat (first | with_reducible exact Below.refl _ _ | with_reducible assumption | (with_reducible refine below_alloc ?_ _) | (with_reducible refine Below.setCell ?_ (by first | omega | (simp;done) | (simp;omega)) _) | (with_reducible refine Below.drew ?_) | (with_reducible refine below_drewN ?_ _) | (refine below_then (by with_reducible assumption) ?_)))⟩
theorem sort_two(x0 y0 x1 y1:Int)(h0:0≤x0∧x0≤1000000000000000)(h1:0≤x1∧x1≤1000000000000000)(W:World)(b c:Nat)(t:TypeId)(hb:Blk W b t #[.int .i64 x0,.int .i64 y0,.int .i64 x1,.int .i64 y1]):
  Calls Tryz.prog 336 #[.slice (some ⟨b,0,none⟩) 2 c,.int .i64 0,.int .i64 2,.func (Fn.func 132) #[] #[]] W fun r w'=>r=.returned (.tuple #[])∧Tch (·=b) W w':=by
 have HC:=hid (fun s:Later W=>looked_cmp x1 y1 x0 y0 h1 h0 s.at_)
 have X0:=fun s:Later W=>s.cell (hb.cell 0)
 have X1:=fun s:Later W=>s.cell (hb.cell 1)
 have X2:=fun s:Later W=>s.cell (hb.cell 2)
 have X3:=fun s:Later W=>s.cell (hb.cell 3)
 simp at X0 X1 X2 X3
 have HB:=hid hb
 clear hb
 by_cases hlt:x1<x0
 ·have d1:decide (x1-x0<0)=true:=decide_eq_true (by omega)
  clear hlt
  go_enter Tryz.func336,Tryz.ntmps336
  go_wp2_with fail
  refine wp_loop_rounds 2 ?_
  rw[rounds_succ]
  go_wp2_with fail
  refine wp_loop_rounds 2 ?_
  rw[rounds_succ]
  go_wp2_with fail
  refine wp_region_later (by kernel_rfl) (by kernel_rfl) ?_
  repeat (go_big_quiet_step ((go_at_call 132;with_reducible exact later_of (HC.out _))))
  refine wpQuiet_nil ?_
  rintro W5 ⟨⟨W5',hb5⟩,rfl⟩
  have HB5:=hid (HB.out.later hb5)
  obtain⟨c0,c1,c2,c3⟩:W5.cell? ⟨b,0,none⟩=some (.int .i64 x0)∧W5.cell? ⟨b,1,none⟩=some (.int .i64 y0)∧W5.cell? ⟨b,2,none⟩=some (.int .i64 x1)∧W5.cell? ⟨b,3,none⟩=some (.int .i64 y1):=⟨HB5.out.cell 0,HB5.out.cell 1,HB5.out.cell 2,HB5.out.cell 3⟩
  have g0:=HB5.out.free 0
  have g1:=HB5.out.free 1
  have g2:=HB5.out.free 2
  have g3:=HB5.out.free 3
  clear X0 X1 X2 X3
  go_wp2_with fail
  go_region
  go_wp2_with fail
  rw[rounds_succ]
  go_wp2_with fail
  refine wp_region_later (by kernel_rfl) (by kernel_rfl) ?_
  repeat (go_big_quiet_step (fail))
  refine wpQuiet_nil ?_
  rintro W6 ⟨⟨W6',hb6⟩,rfl⟩
  go_wp2_with fail
  rw[rounds_succ]
  go_wp2_with fail
  go_end0
  refine⟨rfl,?_⟩
  refine Tch.trans ?_ (Tch.of_later (F:=(·=b)) hb6) fun _ _ h=>h
  refine Tch.trans ?_ (Tch.of_later (F:=(·=b)) (Below.refl _ _).drew) fun _ _ h=>h
  repeat (refine Tch.setCell (F:=(·=b)) ?_ (fun _=>rfl) _)
  exact Tch.of_later hb5
 ·have d1:decide (x1-x0<0)=false:=decide_eq_false (by omega)
  clear hlt
  go_enter Tryz.func336,Tryz.ntmps336
  go_wp2_with fail
  refine wp_loop_rounds 2 ?_
  rw[rounds_succ]
  go_wp2_with fail
  refine wp_loop_rounds 2 ?_
  rw[rounds_succ]
  go_wp2_with fail
  refine wp_region_later (by kernel_rfl) (by kernel_rfl) ?_
  repeat (go_big_quiet_step ((go_at_call 132;with_reducible exact later_of (HC.out _))))
  refine wpQuiet_nil ?_
  rintro W5 ⟨⟨W5',hb5⟩,rfl⟩
  go_wp2_with fail
  rw[rounds_succ]
  go_wp2_with fail
  go_end0
  refine⟨rfl,?_⟩
  exact Tch.of_later hb5
theorem bits_len64(W:World):Calls Tryz.prog 345 #[.int .u64 2] W fun r w'=>(∃l,r=.returned (.int .i64 l))∧W=w':=by
 go_enter Tryz.func345,Tryz.ntmps345
 go_wp2
 go_ret
 exact⟨⟨_,rfl⟩,rfl⟩
theorem bits_len(W:World):Calls Tryz.prog 249 #[.int .u64 2] W fun r w'=>(∃l,r=.returned (.int .i64 l))∧W=w':=by
 have HL:=hid (fun (W:World)=>bits_len64 W)
 go_enter Tryz.func249,Tryz.ntmps249
 go_wp2_with fail
 refine (HL.out _).mono ?_
 rintro r w1 ⟨⟨l,rfl⟩,rfl⟩
 go_wp2
 go_ret
 exact⟨⟨_,rfl⟩,rfl⟩
theorem pdq_two(x0 y0 x1 y1:Int)(h0:0≤x0∧x0≤1000000000000000)(h1:0≤x1∧x1≤1000000000000000)(W:World)(b c:Nat)(t:TypeId)(hb:Blk W b t #[.int .i64 x0,.int .i64 y0,.int .i64 x1,.int .i64 y1])(lim:Int):
  Calls Tryz.prog 248 #[.slice (some ⟨b,0,none⟩) 2 c,.int .i64 0,.int .i64 2,.int .i64 lim,.func (Fn.func 132) #[] #[]] W fun r w'=>r=.returned (.tuple #[])∧Tch (·=b) W w':=by
 have HS:=hid (sort_two x0 y0 x1 y1 h0 h1 W b c t hb)
 clear hb
 go_enter Tryz.func248,Tryz.ntmps248
 go_wp2_with fail
 refine wp_loop_rounds 1 ?_
 rw[rounds_succ]
 go_wp2_with fail
 refine HS.out.mono ?_
 rintro r w1 ⟨rfl,ht⟩
 have HT:=hid ht
 go_wp2_with fail
 (try simp only[Exit.inBlock,Exit.then])
 refine bodyPost_ret (results_none rfl _ _ _) rfl ⟨rfl,HT.out⟩
theorem sortfunc_two(x0 y0 x1 y1:Int)(h0:0≤x0∧x0≤1000000000000000)(h1:0≤x1∧x1≤1000000000000000)(W:World)(b c:Nat)(t:TypeId)(hb:Blk W b t #[.int .i64 x0,.int .i64 y0,.int .i64 x1,.int .i64 y1]):
  Calls Tryz.prog 131 #[.slice (some ⟨b,0,none⟩) 2 c,.func (Fn.func 132) #[] #[]] W fun r w'=>r=.returned (.tuple #[])∧Tch (·=b) W w':=by
 have HP:=hid (fun (lim:Int)=>pdq_two x0 y0 x1 y1 h0 h1 W b c t hb lim)
 have HL:=hid (fun (W:World)=>bits_len W)
 clear hb
 go_enter Tryz.func131,Tryz.ntmps131
 go_wp2_with fail
 refine (HL.out _).mono ?_
 rintro r w1 ⟨⟨l,rfl⟩,rfl⟩
 go_wp2_with fail
 refine (HP.out _).mono ?_
 rintro r w2 ⟨rfl,ht⟩
 have HT:=hid ht
 go_wp2_with fail
 go_end0
 exact⟨rfl,HT.out⟩
theorem footB_top(f:FootD):(footB f).length≤200:=by
 have h1:=footP_len f
 have h8:=(varB_len (footP f).length).1
 simp only[footB,List.length_append,frameB_len,blobB_len,trailB_len]
 omega
theorem recsB_top:∀(l:List Batch),(∀b∈l,batchR b=true)→(recsB l).length≤1200000*l.length
 | [],_=>by simp[recsB]
 | b::l,h=>by
  have h1:=recsB_top l (fun x hx=>h x (List.mem_cons_of_mem _ hx))
  have h2:=batchB_le (h b (List.mem_cons_self ..))
  have h3:=(recB_len 1 (batchB b)).1
  have e:recsB (b::l)=recB 1 (batchB b)++recsB l:=rfl
  rw[e,List.length_append,List.length_cons]
  omega
theorem marksT_len:∀(l:List Batch) (p:Nat),(marksT p l).length=l.length
 | [],p=>rfl
 | b::l,p=>by
  have:=marksT_len l (p+(recB 1 (batchB b)).length)
  simp only[marksT,List.length_cons,this]
theorem seg_big{ep:Int}{l:List Batch}(hR:segR ⟨ep,l⟩=true):(segB ep l).length≤100000000:=by
 obtain⟨e1,_,_⟩:=segB_eq ep l
 have h1:=congrArg List.length e1
 simp only[List.length_append] at h1
 obtain⟨⟨f1,f2⟩,f3,f4⟩:=segR_facts hR
 dsimp only at f1 f2 f3 f4
 have a1:=(headHB_len (v:=3) (ep:=ep.toNat) (bs:=0) (by omega) (by decide)).1
 have a2:=(recB_len 2 (indexB (marksT (headHB 3 ep.toNat 0).length l))).1
 have a3:=footB_top (segF ep l)
 have a4:=recsB_top l f4
 have a5:(indexB (marksT (headHB 3 ep.toNat 0).length l)).length≤10+30*l.length:=by
  have h2:=(varB_len (marksT (headHB 3 ep.toNat 0).length l).length).1
  have h3:=marksB_len (marksT (headHB 3 ep.toNat 0).length l) 0 0
  rw[marksT_len] at h3 h2
  simp only[indexB,List.length_append,marksT_len]
  omega
 omega
end Go.Proofs.YtmioakocnebceaaGreat
