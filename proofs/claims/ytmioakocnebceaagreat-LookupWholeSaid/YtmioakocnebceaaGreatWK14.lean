/- Mini: Needed by lookupWhole_walk, part 14: texts put together by shake.py; no condition. -/
import Derived.Test.YtmioakocnebceaaGreatWK13
import Derived.Test.YtmioakocnebceaaGreatWK10
set_option linter.unusedVariables false
set_option linter.unusedSimpArgs false
set_option maxRecDepth 100000
set_option maxHeartbeats 6400000
namespace Go.Proofs.YtmioakocnebceaaGreat
open Go.RowKit Go.Bs Go.Maps
theorem looked_none(w:World)(B:List UInt8)(a:Option Addr)(n c:Nat)(hl:rBytes.r (·<w.heap.size) w [.slice a n c] B)(hB:B.length≤1000000000)(pos:Int)(hp:0≤pos∧pos≤18446744073709551615)(hk:(fnd B).2.1=0)(hn:fndM (fnd B).1.marks pos=none):
  Calls Tryz.prog 58 #[.slice a n c,.int .u64 pos] w fun r w'=>∃b,r=.returned (.slice (some ⟨b,0,none⟩) 2 2)∧Below w.heap.size w w':=by
 obtain⟨rfl,hmx,hcc,hcm⟩:=sl_len hl
 have HFN:=hid (lookup_find w B a _ c hl hB)
 have hmr:=fnd_right (B:=B)
 have hok:=fnd_ok (B:=B)
 generalize fnd B=q at*
 obtain⟨⟨f,at_,M⟩,k,ff⟩:=q
 dsimp only[placeV] at*
 subst hk
 obtain⟨hfr,hfe,hfl,rfl⟩:=hok rfl
 obtain⟨g0,g1,g2,g3,g4,g5,g6,g7,g8,g9⟩:=hfr
 have HFI:=hid (fun (W:World) (am:Option Addr) (nm cm:Nat) (h:rMarks.r (·<W.heap.size) W [.slice am nm cm] M)=>(by have:=index_find W M am nm cm h hmr pos hp;rw[hn] at this;exact this))
 have HSF:=hid (fun (W:World) (b:Nat) (t:TypeId) (hb:Blk W b t #[.int .i64 (at_:Int),.int .i64 (B.length:Int),.int .i64 f.at_,.int .i64 (f.at_+f.size)])=>sortfunc_two _ _ _ _ (by omega) (by omega) W b 2 t hb)
 have HGD:=hid (fun (W:World)=>fault_good W 0 0)
 rw[show decide ((0:Int)=0)=true from rfl] at HGD
 have ha1:f.at_+f.size≤1000000000:=by omega
 have ha0:1≤f.at_∧1≤f.size:=by omega
 clear hl hok g0 g1 g2 g3 g4 g5 g6 g7 g8 g9 hfe hmr hn
 go_enter Tryz.func58,Tryz.ntmps58
 go_wp2_with fail
 refine HFN.out.mono ?_
 rintro r w1 ⟨v1,rfl,hr1,hb1⟩
 obtain⟨a1,c1,hv1,hr1',_⟩:=sl_form hr1
 simp only[List.cons.injEq,and_true] at hv1
 subst hv1
 go_upto_region 2 with (fail)
 refine wp_world (fun W=>Below w.heap.size w W∧Blk W w1.heap.size 186 #[.int .u64 f.ep,.int .i64 f.n,.int .i64 f.en,.int .u64 f.first,.int .u64 f.fin,.int .i64 f.at_,.int .i64 f.size,.int .i64 (at_:Int),.slice a1 M.length c1]∧Blk W (w1.heap.size+1) 31 #[.int .i64 0,.int .i64 0]∧rMarks.r (·<W.heap.size) W [.slice a1 M.length c1] M) ⟨by (repeat (first | with_reducible exact Below.refl _ _ | with_reducible assumption | (with_reducible refine below_alloc ?_ _) | (with_reducible refine Below.setCell ?_ (by first | omega | (simp;done) | (simp;omega)) _) | (with_reducible refine Below.drew ?_) | (with_reducible refine below_drewN ?_ _) | (refine below_then (by with_reducible assumption) ?_))),by (repeat (first | assumption | exact Blk.newAt _ _ _ (by first | (simp;done) | (simp;omega)) | refine Blk.alloc ?_ _ | refine Blk.drew ?_ | refine Blk.drewN ?_ _ | refine Blk.far ?_ (by first | (simp;done) | (simp;omega)) _)),by (repeat (first | assumption | exact Blk.newAt _ _ _ (by first | (simp;done) | (simp;omega)) | refine Blk.alloc ?_ _ | refine Blk.drew ?_ | refine Blk.drewN ?_ _ | refine Blk.far ?_ (by first | (simp;done) | (simp;omega)) _)),rMarks.mono (rMarks.keep hr1' fun q hq=>(by (repeat (first | with_reducible exact Below.refl _ _ | with_reducible assumption | (with_reducible refine below_alloc ?_ _) | (with_reducible refine Below.setCell ?_ (by first | omega | (simp;done) | (simp;omega)) _) | (with_reducible refine Below.drew ?_) | (with_reducible refine below_drewN ?_ _) | (refine below_then (by with_reducible assumption) ?_))):Below w1.heap.size w1 _).block q hq.2) fun q hq=>by simp;have:=hq.2;omega⟩ ?_
 intro w2 ⟨hbl,hP,hX,hM⟩
 have HP:=hid hP;have HX:=hid hX;have HM:=hid hM
 generalize w1.heap.size+1=gx at*
 generalize w1.heap.size=gp at*
 clear hP hX hM hr1 hr1' hb1 HFN
 obtain⟨x0,x1,x2,x3,lx⟩:=f_blk HX.out
 go_wp2_with fail
 refine (HGD.out _).mono ?_
 rintro r w3 ⟨rfl,hb3⟩
 have HP3:=hid (HP.out.later hb3)
 have HM3:=hid (lift HM.out hb3)
 have hbw3:=below_then hb3 hbl
 clear x0 x1 x2 x3 lx HP HX HM hb3 hbl
 obtain⟨p0,p1,p2,p3,p4,p5,p6,p7,p8,lp⟩:=p9_blk HP3.out
 go_upto_region 5 with (fail)
 refine wp_world (fun W=>Below w.heap.size w W∧Blk W gp 186 #[.int .u64 f.ep,.int .i64 f.n,.int .i64 f.en,.int .u64 f.first,.int .u64 f.fin,.int .i64 f.at_,.int .i64 f.size,.int .i64 (at_:Int),.slice a1 M.length c1]∧(∃t,Blk W w3.heap.size t #[.int .i64 (at_:Int),.int .i64 (B.length:Int),.int .i64 f.at_,.int .i64 (f.at_+f.size)])∧rMarks.r (·<W.heap.size) W [.slice a1 M.length c1] M) ⟨by (repeat (first | with_reducible exact Below.refl _ _ | with_reducible assumption | (with_reducible refine below_alloc ?_ _) | (with_reducible refine Below.setCell ?_ (by first | omega | (simp;done) | (simp;omega)) _) | (with_reducible refine Below.drew ?_) | (with_reducible refine below_drewN ?_ _) | (refine below_then (by with_reducible assumption) ?_))),HP3.out.later (by (repeat (first | with_reducible exact Below.refl _ _ | with_reducible assumption | (with_reducible refine below_alloc ?_ _) | (with_reducible refine Below.setCell ?_ (by first | omega | (simp;done) | (simp;omega)) _) | (with_reducible refine Below.drew ?_) | (with_reducible refine below_drewN ?_ _) | (refine below_then (by with_reducible assumption) ?_)))),⟨_,Blk.new _ _ _⟩,lift HM3.out (by (repeat (first | with_reducible exact Below.refl _ _ | with_reducible assumption | (with_reducible refine below_alloc ?_ _) | (with_reducible refine Below.setCell ?_ (by first | omega | (simp;done) | (simp;omega)) _) | (with_reducible refine Below.drew ?_) | (with_reducible refine below_drewN ?_ _) | (refine below_then (by with_reducible assumption) ?_))))⟩ ?_
 intro w4 ⟨hbl,hP,⟨t,hS⟩,hM⟩
 have hgs:w.heap.size≤w3.heap.size:=hbw3.size
 have HP4:=hid hP;have HS4:=hid hS;have HM4:=hid hM
 generalize w3.heap.size=gs at*
 clear hP hS hM HP3 HM3 hbw3 p0 p1 p2 p3 p4 p5 p6 p7 p8 lp
 obtain⟨p0,p1,p2,p3,p4,p5,p6,p7,p8,lp⟩:=p9_blk HP4.out
 go_wp2_with fail
 refine (HFI.out _ a1 _ c1 HM4.out).mono ?_
 rintro r w5 ⟨rfl,hb5⟩
 dsimp only[markV,Option.isSome]
 have HS5:=hid (HS4.out.later hb5)
 have hbw5:=below_then hb5 hbl
 clear p0 p1 p2 p3 p4 p5 p6 p7 p8 lp HP4 HS4 HM4 hb5 hbl HFI
 go_upto_region 6 with (fail)
 refine wp_world (fun W=>Below w.heap.size w W∧Blk W gs t #[.int .i64 (at_:Int),.int .i64 (B.length:Int),.int .i64 f.at_,.int .i64 (f.at_+f.size)]) ⟨by (repeat (first | with_reducible exact Below.refl _ _ | with_reducible assumption | (with_reducible refine below_alloc ?_ _) | (with_reducible refine Below.setCell ?_ (by first | omega | (simp;done) | (simp;omega)) _) | (with_reducible refine Below.drew ?_) | (with_reducible refine below_drewN ?_ _) | (refine below_then (by with_reducible assumption) ?_))),HS5.out.later (by (repeat (first | with_reducible exact Below.refl _ _ | with_reducible assumption | (with_reducible refine below_alloc ?_ _) | (with_reducible refine Below.setCell ?_ (by first | omega | (simp;done) | (simp;omega)) _) | (with_reducible refine Below.drew ?_) | (with_reducible refine below_drewN ?_ _) | (refine below_then (by with_reducible assumption) ?_))))⟩ ?_
 intro w6 ⟨hbl,hS⟩
 have HS6:=hid hS
 clear hS HS5 hbw5
 go_wp2_with fail
 refine (HSF.out _ _ _ HS6.out).mono ?_
 rintro r w7 ⟨rfl,ht⟩
 have hbe:Below w.heap.size w w7:=hbl.trans (ht.to_below hbl.size fun b hb e=>by omega)
 clear ht
 go_wp2_with fail
 go_ret
 exact⟨_,rfl,hbe⟩
theorem seg5_right:segR ⟨5,[]⟩=true:=by decide
theorem live37(w:World):Calls Tryz.prog 47 #[] w fun r w'=>r=.returned (.bool true)∧Below w.heap.size w w':=by
 have HB:=hid (by have:=segment_bytes 5 [] none 0 0 w (by decide) (rSl_mk (xs:=[]) rfl (Nat.le_refl _) (Nat.zero_le _) (.inl rfl)) (fun b hb=>by cases hb) (fun b hb=>by cases hb);rw[if_pos seg5_right,if_pos seg5_right] at this;exact this)
 have hbig:=seg_big (ep:=5) (l:=[]) seg5_right
 have hlk:=lkp_put (ep:=5) (l:=[]) seg5_right (fun b hb=>by cases hb) 7
 have hfn:=fnd_put (ep:=5) (l:=[]) seg5_right (fun b hb=>by cases hb)
 have hfn1:=congrArg (fun q=>q.2.1) hfn
 have hfn2:=congrArg (fun q=>fndM q.1.marks 7) hfn
 dsimp only at hfn1 hfn2
 generalize segB 5 []=S at*
 have HLK:=hid (fun (W:World) (a:Option Addr) (n c:Nat) (h:rBytes.r (·<W.heap.size) W [.slice a n c] S)=>(by have:=lookup_lookup W S a n c h (by omega) 7 (by decide);rw[hlk] at this;exact this))
 have HLD:=hid (fun (W:World) (a:Option Addr) (n c:Nat) (h:rBytes.r (·<W.heap.size) W [.slice a n c] S)=>looked_none W S a n c h (by omega) 7 (by decide) hfn1 (hfn2.trans rfl))
 clear hlk hfn hfn1 hfn2
 go_enter Tryz.func47,Tryz.ntmps47
 go_wp2_with fail
 refine HB.out.mono ?_
 rintro r w1 ⟨v,rfl,hr,hb1⟩
 obtain⟨a1,c1,hv,hr2,_⟩:=sl_form hr
 simp only[List.cons.injEq,and_true] at hv
 subst hv
 have HR1:=hid (rBytes.mono (S':=(·<w1.heap.size)) hr2 fun q hq=>hq.2)
 clear hr hr2
 go_wp2_with fail
 refine (HLK.out w1 a1 _ c1 HR1.out).mono ?_
 unfold LkpRet
 dsimp only
 rintro r w2 ⟨rfl,hb2⟩
 go_upto_region 3 with (fail)
 refine wp_world (fun W=>Below w1.heap.size w1 W∧Blk W (w2.heap.size+1) 31 #[.int .i64 16,.int .i64 0]) ⟨hb2.trans ((by (repeat (first | with_reducible exact Below.refl _ _ | with_reducible assumption | (with_reducible refine below_alloc ?_ _) | (with_reducible refine Below.setCell ?_ (by first | omega | (simp;done) | (simp;omega)) _) | (with_reducible refine Below.drew ?_) | (with_reducible refine below_drewN ?_ _) | (refine below_then (by with_reducible assumption) ?_))):Below w2.heap.size w2 _).mono hb2.size),by (repeat (first | assumption | exact Blk.newAt _ _ _ (by first | (simp;done) | (simp;omega)) | refine Blk.alloc ?_ _ | refine Blk.drew ?_ | refine Blk.drewN ?_ _ | refine Blk.far ?_ (by first | (simp;done) | (simp;omega)) _))⟩ ?_
 intro w3 ⟨hb3,hX⟩
 have HR3:=hid (lift HR1.out hb3)
 have HX:=hid hX
 have hbw:=below_then hb3 hb1
 generalize w2.heap.size+1=gx at*
 clear hX hb2 hb3 HR1
 obtain⟨x0,x1,x2,x3,lx⟩:=f_blk HX.out
 go_wp2_with fail
 refine (HLD.out w3 a1 _ c1 HR3.out).mono ?_
 rintro r w4 ⟨b,rfl,hb4⟩
 have hbe:=below_then hb4 hbw
 clear x0 x1 x2 x3 lx
 go_wp2_with fail
 go_ret
 exact⟨rfl,hbe⟩
theorem tame_lk{l:List Batch}(h:∀b∈l,b.entries.length≤30∧total b.entries≤300∧∀x∈b.entries,x.data.length≤500∧x.links.length≤50∧∀y∈x.links,y.backs.length≤50):∀b∈l,TameE b.entries:=fun b hb=>by
 obtain⟨h1,h2,h3⟩:=h b hb
 exact⟨by omega,by omega,fun e he x hx=>by have:=(h3 e he).2.2 x hx;omega⟩
theorem batchN_lk{S:Nat→Prop}{w:World}{a:Option Addr}{n c:Nat}{l:List Batch}(h:rBatches.r S w [.slice a n c] l):∀b∈l,batchN b:=by
 intro b hb
 obtain⟨i,hi,rfl⟩:=List.getElem_of_mem hb
 obtain⟨g,o,_,_,a1,c1,_,_,_,n0,n1,hd⟩:=batch_at h hi
 refine⟨n0,n1,fun e he=> ?_⟩
 obtain⟨k,hk,rfl⟩:=List.getElem_of_mem he
 obtain⟨_,_,_,_,a2,c2,a3,c3,_,_,hl,_⟩:=entry_at hd hk
 exact links_bounds hl
open Go.RowKit Fl Go.Bs
theorem LkpRet.one{X:Option Entry × Int × Int}{w w':World}{r:Ending}(h:LkpRet X w r w'):∃v1 v2,r=.returned (.tuple #[.agg #[v1,v2],.agg #[.int .i64 X.2.1,.int .i64 X.2.2]])∧rLinks.r (Fresh w w') w' [v1] (X.1.getD ⟨[],[]⟩).links∧rBytes.r (Fresh w w') w' [v2] (X.1.getD ⟨[],[]⟩).data∧Below w.heap.size w w':=by
 obtain⟨X,k,f⟩:=X
 cases X with
 | none=>exact ⟨_,_,h.1,rSl_mk (xs:=[]) rfl (Nat.le_refl _) (Nat.zero_le _) (.inl rfl),rSl_mk (xs:=[]) rfl (Nat.le_refl _) (Nat.zero_le _) (.inl rfl),h.2⟩
 | some e=>exact h
theorem lookupWhole_c(ep:Int)(l:List Batch)(pos:Int)(a:Option Addr)(n c:Nat)(w:World)(h0:0≤ep∧ep≤18446744073709551615)(hl:rBatches.r (·<w.heap.size) w [.slice a n c] l)(hp:0≤pos∧pos≤18446744073709551615):
  Calls Tryz.prog 9 #[.agg #[.int .u64 ep,.slice a n c],.int .u64 pos] w fun r w'=>r=.returned (.bool true)∧Below w.heap.size w w':=by
 obtain⟨rfl,hm,_,_⟩:=sl_len hl
 have H34:=hid (fun (W:World) (hW:Below w.heap.size w W)=>law34_long ep l a _ c W (lift hl hW))
 have HL:=hid hl
 have HBN:=hid (batchN_lk hl)
 have HI0:Hid (LawF w (w.alloc (.cells #[.int .u64 ep,.slice a l.length c] 28)) ep a l.length c):=hid ⟨below_alloc (Below.refl _ _) _,Blk.new w _ _⟩
 clear hl
 cases hl1:long34 l
 ·rw[hl1] at H34
  obtain⟨hL20,hLs⟩:=long34_no hl1
  have htame:=tame_lk hLs
  have HBY:=hid (fun (W:World) (hW:Below w.heap.size w W)=>segment_bytes ep l a _ c W h0 (lift HL.out hW) HBN.out htame)
  clear hl1 hLs htame
  cases hs:segR ⟨ep,l⟩
  ·rw[hs] at HBY
   simp only[Bool.false_eq_true,if_false] at HBY
   clear hs
   go_enter Tryz.func9,Tryz.ntmps9
   go_wp2_with fail
   refine (H34.out _ HI0.out.below).mono ?_
   rintro r w1 ⟨rfl,hb1⟩
   have HI1:=hid (HI0.out.later hb1)
   have g0:w1.cell? ⟨w.heap.size,0,none⟩=some (.int .u64 ep):=HI1.out.g.cell 0
   have g1:w1.cell? ⟨w.heap.size,1,none⟩=some (.slice a l.length c):=HI1.out.g.cell 1
   clear hb1 HI0 H34
   go_wp2_with fail
   refine (HBY.out _ HI1.out.below).mono ?_
   rintro r w2 ⟨v,rfl,hv,hb2⟩
   have HI2:=hid (HI1.out.later hb2)
   clear g0 g1 hv hb2 HI1
   go_wp2_with fail
   refine (live37 _).mono ?_
   rintro r w9 ⟨rfl,hb9⟩
   have hbe:=below_then hb9 HI2.out.below
   go_wp2
   go_ret
   exact⟨rfl,hbe⟩
  ·rw[hs] at HBY
   simp only[if_true] at HBY
   have HLP:=hid (lkp_put hs HBN.out pos)
   have hbig:=seg_big hs
   have HRE:=hid (fun (W:World) (hW:Below w.heap.size w W)=>ref34_entry ep l pos a _ c W (lift HL.out hW) hp (fun b hb=>(batchR_facts ((segR_facts hs).2.2 b hb)).2.2.2.2.1))
   generalize segB ep l=S at*
   have HLK:=hid (fun (W:World) (ab:Option Addr) (nb cb:Nat) (h:rBytes.r (·<W.heap.size) W [.slice ab nb cb] S)=>(by have:=lookup_lookup W S ab nb cb h (by omega) pos hp;rw[HLP.out] at this;exact this))
   obtain⟨X,hX⟩:∃X,X=findS l pos:=⟨_,rfl⟩
   rw[←hX] at HLK
   have HX:=hid hX.symm
   clear hs hbig hX HLP
   go_enter Tryz.func9,Tryz.ntmps9
   go_wp2_with fail
   refine (H34.out _ HI0.out.below).mono ?_
   rintro r w1 ⟨rfl,hb1⟩
   have HI1:=hid (HI0.out.later hb1)
   have g0:w1.cell? ⟨w.heap.size,0,none⟩=some (.int .u64 ep):=HI1.out.g.cell 0
   have g1:w1.cell? ⟨w.heap.size,1,none⟩=some (.slice a l.length c):=HI1.out.g.cell 1
   clear hb1 HI0 H34
   go_wp2_with fail
   refine (HBY.out _ HI1.out.below).mono ?_
   rintro r w2 ⟨v,rfl,hv,hb2⟩
   obtain⟨aS,cS,hvf,hv2,_⟩:=sl_form hv
   simp only[List.cons.injEq,and_true] at hvf
   subst hvf
   have HI2:=hid (HI1.out.later hb2)
   have HS2:=hid (rBytes.mono (S':=(·<w2.heap.size)) hv2 fun q hq=>hq.2)
   clear g0 g1 hv hv2 hb2 HI1 HBY
   go_wp2_with fail
   refine (HLK.out w2 aS _ cS HS2.out).mono ?_
   intro r w3 hr3
   obtain⟨v1,v2,rfl,hv1,hv2,hb3⟩:=hr3.one
   clear hr3
   dsimp only at hv1 hv2 ⊢
   obtain⟨a3,c3,hf3,hv1',_⟩:=sl_form hv1
   simp only[List.cons.injEq,and_true] at hf3
   subst hf3
   obtain⟨a4,c4,hf4,hv2',_⟩:=sl_form hv2
   simp only[List.cons.injEq,and_true] at hf4
   subst hf4
   have HI3:=hid (HI2.out.later hb3)
   have HV1:=hid (rLinks.mono (S':=fun q=>q<w3.heap.size) hv1 fun q hq=>hq.2)
   have HV2:=hid (rBytes.mono (S':=fun q=>q<w3.heap.size) hv2 fun q hq=>hq.2)
   clear hv1' hv2' hv1 hv2 hb3 HI2 HS2 HLK
   generalize hen:X.getD ⟨[],[]⟩=en at*
   have HE:=hid hen
   clear hen
   generalize hkk:(if X.isSome=true then (0:Int) else 16)=kk at*
   have HK:=hid hkk
   clear hkk
   go_upto_region 7 with (fail)
   refine wp_world (fun W=>LawF w W ep a l.length c∧Blk W w3.heap.size 84 #[.slice a3 en.links.length c3,.slice a4 en.data.length c4]∧Blk W (w3.heap.size+1) 31 #[.int .i64 kk,.int .i64 0]∧rLinks.r (·<W.heap.size) W [.slice a3 en.links.length c3] en.links∧rBytes.r (·<W.heap.size) W [.slice a4 en.data.length c4] en.data) ⟨HI3.out.later (by (repeat (first | with_reducible exact Below.refl _ _ | with_reducible assumption | (with_reducible refine below_alloc ?_ _) | (with_reducible refine Below.setCell ?_ (by first | omega | (simp;done) | (simp;omega)) _) | (with_reducible refine Below.drew ?_) | (with_reducible refine below_drewN ?_ _) | (refine below_then (by with_reducible assumption) ?_)))),by (repeat (first | assumption | exact Blk.newAt _ _ _ (by first | (simp;done) | (simp;omega)) | refine Blk.alloc ?_ _ | refine Blk.drew ?_ | refine Blk.drewN ?_ _ | refine Blk.far ?_ (by first | (simp;done) | (simp;omega)) _)),by (repeat (first | assumption | exact Blk.newAt _ _ _ (by first | (simp;done) | (simp;omega)) | refine Blk.alloc ?_ _ | refine Blk.drew ?_ | refine Blk.drewN ?_ _ | refine Blk.far ?_ (by first | (simp;done) | (simp;omega)) _)),lift HV1.out (by (repeat (first | with_reducible exact Below.refl _ _ | with_reducible assumption | (with_reducible refine below_alloc ?_ _) | (with_reducible refine Below.setCell ?_ (by first | omega | (simp;done) | (simp;omega)) _) | (with_reducible refine Below.drew ?_) | (with_reducible refine below_drewN ?_ _) | (refine below_then (by with_reducible assumption) ?_)))),lift HV2.out (by (repeat (first | with_reducible exact Below.refl _ _ | with_reducible assumption | (with_reducible refine below_alloc ?_ _) | (with_reducible refine Below.setCell ?_ (by first | omega | (simp;done) | (simp;omega)) _) | (with_reducible refine Below.drew ?_) | (with_reducible refine below_drewN ?_ _) | (refine below_then (by with_reducible assumption) ?_))))⟩ ?_
   intro w4 ⟨hI,hE4,hX4,hU1,hU2⟩
   have HI4:=hid hI;have HE4:=hid hE4;have HX4:=hid hX4;have HU1:=hid hU1;have HU2:=hid hU2
   generalize w3.heap.size+1=gx at*
   generalize w3.heap.size=ge at*
   clear hI hE4 hX4 hU1 hU2 HI3 HV1 HV2
   have g0:w4.cell? ⟨w.heap.size,0,none⟩=some (.int .u64 ep):=HI4.out.g.cell 0
   have g1:w4.cell? ⟨w.heap.size,1,none⟩=some (.slice a l.length c):=HI4.out.g.cell 1
   go_wp2_with fail
   refine (HRE.out _ HI4.out.below).mono ?_
   rintro r w7 ⟨hr,hb7⟩
   have HI7:=hid (HI4.out.later hb7)
   have hE7:=HE4.out.later hb7
   have hX7:=HX4.out.later hb7
   have HW1:=hid (lift HU1.out hb7)
   have HW2:=hid (lift HU2.out hb7)
   obtain⟨y0,y1,_,_,ly⟩:=e2_blk hE7
   obtain⟨x0,x1,x2,x3,lx⟩:=f_blk hX7
   clear g0 g1 hb7 HI4 HE4 HX4 HU1 HU2 hE7 hX7 x2 x3
   unfold EntAt at hr
   rw[HX.out] at hr
   cases X with
   | none=>
    obtain rfl:kk=16:=HK.out.symm
    have hd:decide (en=⟨[],[]⟩)=true:=decide_eq_true HE.out.symm
    have HSE:=hid (fun (W:World) (hW:Below w7.heap.size w7 W)=>(by have:=ref24_same en ⟨[],[]⟩ a3 none a4 none _ c3 0 0 _ c4 0 0 W (lift HW1.out hW) (lift HW2.out hW) (rSl_mk (xs:=[]) rfl (Nat.le_refl _) (Nat.zero_le _) (.inl rfl)) (rSl_mk (xs:=[]) rfl (Nat.le_refl _) (Nat.zero_le _) (.inl rfl));rw[hd] at this;exact this))
    clear hd
    dsimp only at hr
    subst hr
    go_wp2_with fail
    refine (HSE.out _ (by (repeat (first | with_reducible exact Below.refl _ _ | with_reducible assumption | (with_reducible refine below_alloc ?_ _) | (with_reducible refine Below.setCell ?_ (by first | omega | (simp;done) | (simp;omega)) _) | (with_reducible refine Below.drew ?_) | (with_reducible refine below_drewN ?_ _) | (refine below_then (by with_reducible assumption) ?_))))).mono ?_
    rintro r w8 ⟨rfl,hb8⟩
    go_wp2_with fail
    refine (live37 _).mono ?_
    rintro r w9 ⟨rfl,hb9⟩
    have hbe:=below_then hb9 (below_then hb8 HI7.out.below)
    go_wp2
    go_ret
    exact⟨rfl,hbe⟩
   | some e=>
    obtain rfl:kk=0:=HK.out.symm
    obtain rfl:e=en:=HE.out
    dsimp only at hr
    obtain⟨i,k,hi,hk,he,rfl⟩:=hr
    obtain⟨b,o,hA,hbb,a5,c5,X0,X1,X2,_,_,hd⟩:=batch_at (lift HL.out HI7.out.below) hi
    subst hA
    obtain⟨b2,o2,hA2,hbb2,a6,c6,a7,c7,Z0,Z1,hd1,hd2⟩:=entry_at hd hk
    subst hA2
    clear hd
    have HD1:=hid hd1
    have HD2:=hid hd2
    have hdd:decide (e=l[i].entries[k])=true:=decide_eq_true he.symm
    have HDD:=hid hdd
    have hmk:=hid (sl_len hd1).2
    clear hd1 hd2 hdd he
    have g1:w7.cell? ⟨w.heap.size,1,none⟩=some (.slice (some ⟨b,o,none⟩) l.length c):=HI7.out.g.cell 1
    have i1:(i:Int)<(l.length:Int):=by omega
    have k1:(k:Int)<(l[i].entries.length:Int):=by omega
    generalize l[i].entries[k]=q at*
    generalize l[i]=z at*
    have HSE:=hid (fun s:Later w7=>ref24_same e q a3 a6 a4 a7 _ c3 _ c6 _ c4 _ c7 s.at_ (lift HW1.out s.below) (lift HW2.out s.below) (lift HD1.out s.below) (lift HD2.out s.below))
    rw[HDD.out] at HSE
    have HLV:=hid (fun s:Later w7=>live37 s.at_)
    have E0:=fun s:Later w7=>s.cell y0
    have E1:=fun s:Later w7=>s.cell y1
    have F0:=fun s:Later w7=>s.cell x0
    have F1:=fun s:Later w7=>s.cell x1
    have G1:=fun s:Later w7=>s.cell g1
    have P2:=fun s:Later w7=>s.cell X2
    have Q0:=fun s:Later w7=>s.cell Z0
    have Q1:=fun s:Later w7=>s.cell Z1
    have db1:decide ((0:Int)≤(i:Int))=true:=decide_eq_true (by omega)
    have i0:(0:Int)≤(i:Int):=by omega
    have k0:(0:Int)≤(k:Int):=by omega
    go_wp2_with fail
    refine wp_region_later (by kernel_rfl) (by kernel_rfl) ?_
    repeat (go_big_quiet_step ((first | (go_at_call 50;with_reducible exact later_of (HSE.out _)) | (go_at_call 47;with_reducible exact later_of (HLV.out _)))))
    refine wpQuiet_nil ?_
    rintro V ⟨⟨V',hbV⟩,rfl⟩
    have hbe:=below_then hbV HI7.out.below
    go_wp2
    go_ret
    exact⟨rfl,hbe⟩
 ·rw[hl1] at H34
  clear hl1
  go_enter Tryz.func9,Tryz.ntmps9
  go_wp2_with fail
  refine (H34.out _ HI0.out.below).mono ?_
  rintro r w1 ⟨rfl,hb1'⟩
  have HI1:=hid (HI0.out.later hb1')
  go_wp2_with fail
  refine (live37 _).mono ?_
  rintro r w9 ⟨rfl,hb9⟩
  have hbe:=below_then hb9 HI1.out.below
  go_wp2
  go_ret
  exact⟨rfl,hbe⟩
theorem lookupWhole_walk{H:Type}(enc:TypeId × Value→H)(W:World)(base:Nat)(v0 v1:Value)(d0 d1:DataW H)(p0 p1:List MemPlace)
  (k0:DataW.Trod enc Tryz.prog W 0 (fun _=>true) true 28 v0 d0 p0) (k1:DataW.Trod enc Tryz.prog W 0 (fun _=>true) true 25 v1 d1 p1)
  (o0:Value.okWide Tryz.prog W .any base 28 v0) (o1:Value.okWide Tryz.prog W .any base 25 v1):
  Calls Tryz.prog 9 #[v0,v1] W fun e w'=>e=.returned (.bool true)∧Below W.heap.size W w':=by
 obtain⟨ep,l,a,n,c,rfl,h0,hl⟩:=seg_arg enc W base v0 d0 p0 k0 o0
 obtain⟨f1,hf1⟩:=k1
 obtain⟨p,rfl⟩:=Go.WideShapes.okWide_int Tryz.underlying25 o1
 obtain⟨n',hn,hw⟩:=o_u64 enc W f1 _ _ hf1
 simp[Value.cells] at hn
 subst hn
 exact lookupWhole_c ep l p a n c W h0 hl (bounds_u64 hw)
end Go.Proofs.YtmioakocnebceaaGreat
