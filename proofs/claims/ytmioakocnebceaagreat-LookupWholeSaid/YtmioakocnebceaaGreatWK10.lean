/- Mini: Needed by lookupWhole_walk, part 10: texts put together by shake.py; no condition. -/
import Derived.Test.YtmioakocnebceaaGreatWK9
import Derived.Test.YtmioakocnebceaaGreatWK8
import Derived.Test.YtmioakocnebceaaGreatWK1
import Derived.Test.YtmioakocnebceaaGreatWK5
import Derived.Test.YtmioakocnebceaaGreatWK3
import Derived.Deep.CutRange
import Derived.Scope
import Derived.Deep.RegionHeld3
import Derived.Test.YtmioakocnebceaaGreatProg
import Derived.WalkKit
import Derived.Deep.Cut
import Derived.Deep.WholeRow
import Derived.BigQuiet
import Derived.Test.YtmioakocnebceaaGreatWK6
import Derived.Test.YtmioakocnebceaaGreatWK4
import Derived.Test.YtmioakocnebceaaGreatWK7
set_option linter.unusedVariables false
set_option linter.unusedSimpArgs false
set_option maxRecDepth 100000
set_option maxHeartbeats 6400000
namespace Go.Proofs.YtmioakocnebceaaGreat
open Go.RowKit Go.Bs Go.Maps
def trailB(n:Nat):List UInt8:=fixedB 4 n++(fixedB 4 (crcSum (fixedB 4 n))++[76,79,72,84])
theorem trailB_len(n:Nat):(trailB n).length=12:=by simp[trailB,fixedB_len]
def footB(f:FootD):List UInt8:=frameB (footP f)++trailB (frameB (footP f)).length
theorem footer_size(w:World):Calls Tryz.prog 175 #[] w fun r w'=>r=.returned (.int .i64 12)∧w=w':=by
 go_enter Tryz.func175,Tryz.ntmps175
 go_wp2
 go_ret
 exact⟨rfl,rfl⟩
theorem footer_trailer(n:Nat)(hn:n<18446744073709551616)(w:World):
  Calls Tryz.prog 280 #[.int .i64 n] w fun r w'=>∃x,r=.returned x∧rBytes.r (fun q=>w.heap.size≤q∧q<w'.heap.size) w' [x] (trailB n)∧Below w.heap.size w w':=by
 have hff:Hid (trailB n=([]++fixedB 4 n)++fixedB 4 (crcSum (fixedB 4 n))++[76,79,72,84]):=hid (by simp[trailB])
 have HF:=hid (fun W:World=>pen_fixed n hn 4 (by omega) W)
 have hfl:=fixedB_len 4 n
 have HC:=hid (fun (W:World) (a:Option Addr) (n' c:Nat) h=>crc_sum (fixedB 4 n) a n' c W h)
 have HL:=crcSum_lt (fixedB 4 n)
 have HN:=hid (fun W:World=>pen_new W 12 (by omega))
 have e1:(n:Int)%18446744073709551616=n:=by omega
 generalize trailB n=K at*
 generalize crcSum (fixedB 4 n)=s at*
 generalize fixedB 4 n=D at*
 go_enter Tryz.func280,Tryz.ntmps280
 go_wp2_with fail
 refine (footer_size _).mono ?_
 rintro r w1 ⟨rfl,rfl⟩
 go_wp2_with fail
 refine (HN.out w).mono ?_
 rintro r w2 ⟨rfl,hp2,hb2⟩
 have HP2:=hid hp2
 have hz2:=hp2.blk.lt
 clear hp2
 go_wp2_with fail
 refine (HF.out _).mono ?_
 rintro r w3 ⟨v,rfl,ho,hb3⟩
 obtain⟨a,c,rfl⟩:=own_form ho
 have hr:=own_bytes2 (l:=D) hfl.symm ho
 have HR:=hid hr
 have hbw3:=hid (below_then hb3 hb2)
 have HP3:=hid (HP2.out.later hb3)
 clear ho hr
 go_wp2_with fail
 refine (pen_put w3 HP3.out D a _ c (rBytes.mono (S':=(·<w3.heap.size)) HR.out fun q hq=>hq.2) (by simp;omega) (by simp;omega)).mono ?_
 rintro r w4 ⟨rfl,hs4⟩
 have K4:Hid (PenOk w3 w.heap.size 12 ([]++D) w4):=hid hs4
 have ht4:=K4.out.tch
 have hs4':=ht4.size
 have HR4:=hid (rBytes.mono (S':=(·<w4.heap.size)) (rBytes.keep HR.out fun q hq=>ht4.block q hq.2 (by omega)) fun q hq=>by omega)
 clear hs4 ht4
 go_wp2_with fail
 refine (HC.out w4 a _ c HR4.out).mono ?_
 rintro r w5 ⟨rfl,hb5⟩
 have K5:=hid (K4.out.later hb5)
 have e2:(s:Int)%18446744073709551616=s:=by omega
 go_wp2_with fail
 obtain⟨a5,b5,p5,k5,_⟩:=K5.out.at
 refine (pen_wfixed w5 p5 s (by omega) 4 (by omega) (by simp;omega) (by simp;omega)).mono ?_
 rintro r w6 ⟨rfl,hs6⟩
 have K6:=hid (k5 hs6)
 have hl6:=fixedB_len 4 s
 clear hs6 k5 p5
 go_wp2_with fail
 obtain⟨a6,b6,p6,k6,_⟩:=K6.out.at
 refine (pen_text w6 p6 ⟨#[76,79,72,84]⟩ (by decide) [76,79,72,84] rfl (by simp;omega) (by simp;omega)).mono ?_
 rintro r w7 ⟨rfl,hs7⟩
 have k7:=k6 hs7
 rw[←hff.out] at k7
 have K7:=hid k7
 clear hs7 k6 p6 k7
 go_wp2_with fail
 obtain⟨a7,b7,p7,k7,_⟩:=K7.out.at
 refine (pen_bytes w7 p7).mono ?_
 rintro r w8 ⟨x,rfl,hr,hb8⟩
 have hbw:=K7.out.below hbw3.out (Nat.le_refl _)
 have HRR:=hid hr
 clear hr k7 p7
 go_wp2
 go_ret
 exact⟨_,rfl,rBytes.mono HRR.out fun q hq=>⟨by have:=hbw.size;omega,hq.2⟩,below_then hb8 hbw⟩
theorem footer_bytes(f:FootD)(hR:FootR f)(w:World):
  Calls Tryz.prog 246 #[.agg f.val] w fun r w'=>∃x,r=.returned (.tuple #[x,.int .i64 0])∧OwnB w' w.heap.size x (footB f)∧Below w.heap.size w w':=by
 obtain⟨i0,hi,hz0,hz1,hz2⟩:=info_parts info8
 have HP:=hid (fun W:World=>footer_payload f hR W)
 have hpl:=footP_len f
 have hfb:Hid (footB f=frameB (footP f)++trailB (frameB (footP f)).length):=hid rfl
 have hfl:(frameB (footP f)).length≤100:=by
  rw[frameB_len,blobB_len]
  have:=(varB_len (footP f).length).1
  omega
 have HF:=hid (fun (W:World) (a:Option Addr) (n c:Nat) h=>frame_bytes W (footP f) a n c h (by omega))
 have HT:=hid (fun W:World=>footer_trailer (frameB (footP f)).length (by omega) W)
 have htl:(trailB (frameB (footP f)).length).length≤12:=by rw[trailB_len];omega
 generalize footB f=K at*
 generalize trailB (frameB (footP f)).length=T at*
 generalize frameB (footP f)=D at*
 generalize footP f=P at*
 have hfv:f.val=#[.int .u64 f.ep,.int .i64 f.n,.int .i64 f.en,.int .u64 f.first,.int .u64 f.fin,.int .i64 f.at_,.int .i64 f.size]:=rfl
 rw[hfv]
 rw[hfv] at HP
 clear hfv hR
 go_enter Tryz.func246,Tryz.ntmps246
 go_wp2_with fail
 refine (HP.out _).mono ?_
 rintro r w1 ⟨v,rfl,hr,hb1⟩
 obtain⟨a1,c1,hv1,hr1,_⟩:=sl_form hr
 simp only[List.cons.injEq,and_true] at hv1
 subst hv1
 have HR:=hid (rBytes.mono (S':=(·<w1.heap.size)) hr1 fun q hq=>hq.2)
 have hbw1:Below w.heap.size w w1:=by (repeat (first | exact Below.refl _ _ | assumption | (refine below_alloc ?_ _) | (refine Below.setCell ?_ (by first | omega | (simp;done) | (simp;omega)) _) | (refine Below.drew ?_) | (refine below_drewN ?_ _) | (refine below_then (by assumption) ?_)))
 clear hr hr1
 go_wp2_with fail
 refine (HF.out w1 a1 _ c1 HR.out).mono ?_
 rintro r w2 ⟨v,rfl,ho2,hb2⟩
 obtain⟨a2,c2,rfl⟩:=ho2.form
 have hbw2:=below_then hb2 hbw1
 have HO2:=hid ho2
 clear ho2
 go_wp2_with fail
 refine (HT.out w2).mono ?_
 rintro r w3 ⟨v,rfl,hr3,hb3⟩
 obtain⟨a3,c3,hv3,hr3',_⟩:=sl_form hr3
 simp only[List.cons.injEq,and_true] at hv3
 subst hv3
 have HS:=hid (src_bytes (rBytes.mono (S':=(·<w3.heap.size)) hr3' fun q hq=>hq.2))
 have HO3:Hid (w3.ownsRow w.heap.size 5 1 (.slice a2 D.length c2) D.length (byteCells D)):=hid (own_below (HO2.out.low hbw1.size) hb3)
 have HONE:=hid (byteCells_one T)
 have hbw3:=below_then hb3 hbw2
 have hz3:=hbw3.size
 clear hr3 hr3'
 go_wp2_with (at_builtin;go_loud (refine wpList_append_src rfl _ _ _ rfl w.heap.size 5 i0 (.int .u8 0) 1 1 Tryz.underlying22 hi hz0 hz1 hz2 rfl (by decide) (.slice a2 D.length c2) D.length (byteCells D) rfl HO3.out a3 T.length c3 (byteCells T) rfl HS.out HONE.out (by simp only[maxLen];omega) (by omega) (by omega) ?_;intro v' w4 hown4 hgrow4 hat4;have HG:=hid hgrow4;have HO4:=hid hown4;clear hgrow4 hown4 hat4))
 have hB:Below w.heap.size w w4:=Below.grown hbw3 HG.out (by omega) (fun g e=>(HO3.out.lt g e).1)
 have hO:=OwnB.app HO4.out
 rw[←hfb.out] at hO
 have HO:=hid hO
 clear hO
 go_wp2
 go_ret2
 exact⟨_,rfl,HO.out,hB⟩
def recB(k:UInt8)(D:List UInt8):List UInt8:=frameB (k::D)
theorem seg_record(k:Nat)(hk:k<256)(D:List UInt8)(a:Option Addr)(n c:Nat)(w:World)(hl:rBytes.r (·<w.heap.size) w [.slice a n c] D)(hm:D.length+1≤2097152):
  Calls Tryz.prog 243 #[.int .u8 k,.slice a n c] w fun r w'=>∃x,r=.returned x∧OwnB w' w.heap.size x (recB (UInt8.ofNat k) D)∧Below w.heap.size w w':=by
 obtain⟨rfl,hlm,_,_⟩:=sl_len hl
 obtain⟨i0,hi,hz0,hz1,hz2⟩:=info_parts info8
 have HF:=hid (fun (W:World) (a:Option Addr) (n c:Nat) h=>frame_bytes W (UInt8.ofNat k::D) a n c h (by simp;omega))
 have hrb:Hid (recB (UInt8.ofNat k) D=frameB (UInt8.ofNat k::D)):=hid rfl
 have hcl:Hid ([Value.int .u8 (k:Int)]++byteCells D=byteCells (UInt8.ofNat k::D)):=hid (by
  rw[show (k:Int)=((UInt8.ofNat k).toNat:Int) from byte_small hk];rfl)
 have HS:=hid (fun (W:World) (hW:Below w.heap.size w W)=>src_bytes (lift hl hW))
 have HONE:=hid (byteCells_one D)
 have HO:=hid (own_new1 (w:=w.alloc (.cells #[.int .u8 (k:Int)] 5)) (base:=w.heap.size) (e:=5) (Nat.le_refl _) (World.alloc_heap_new w _))
 clear hl
 go_enter Tryz.func243,Tryz.ntmps243
 go_wp2_with (at_builtin;go_loud (refine wpList_append_src rfl _ _ _ rfl w.heap.size 5 i0 (.int .u8 0) 1 1 Tryz.underlying22 hi hz0 hz1 hz2 rfl (by decide) (.slice (some ⟨w.heap.size,0,none⟩) 1 1) 1 _ rfl HO.out a D.length c (byteCells D) rfl (HS.out _ (by (repeat (first | exact Below.refl _ _ | assumption | (refine below_alloc ?_ _) | (refine Below.setCell ?_ (by first | omega | (simp;done) | (simp;omega)) _) | (refine Below.drew ?_) | (refine below_drewN ?_ _) | (refine below_then (by assumption) ?_))))) HONE.out (by simp only[maxLen];omega) (by omega) (by simp) ?_;intro v' w1 hown1 hgrow1 hat1;obtain⟨a',c',rfl⟩:=own_form hown1;have HG:=hid hgrow1;have HO1:=hid hown1;clear hgrow1 hown1 hat1))
 have ho:=HO1.out
 rw[hcl.out] at ho
 have hB:Below w.heap.size w w1:=Below.grown (by (repeat (first | exact Below.refl _ _ | assumption | (refine below_alloc ?_ _) | (refine Below.setCell ?_ (by first | omega | (simp;done) | (simp;omega)) _) | (refine Below.drew ?_) | (refine below_drewN ?_ _) | (refine below_then (by assumption) ?_)))) HG.out (by simp) (fun g e=>(HO.out.lt g e).1)
 have HR1:=hid (own_bytes (l:=UInt8.ofNat k::D) (by simp;omega) ho)
 clear ho
 refine (HF.out w1 a' _ c' HR1.out).mono ?_
 rintro r w2 ⟨v,rfl,ho2,hb2⟩
 rw[←hrb.out] at ho2
 have HO2:=hid (ho2.low hB.size)
 clear ho2
 go_wp2
 go_ret
 exact⟨_,rfl,HO2.out,below_then hb2 hB⟩
theorem infoMark:(Tryz.prog.info? 141).map (fun i=>(i.zero,i.size,i.bytes))=some (some (.agg #[.int .u64 0,.int .i64 0,.int .i64 0]),3,24):=by kernel_rfl
def markC(m:MarkD):List Value:=[.int .u64 m.pos,.int .i64 m.count,.int .i64 m.at_]
structure MarksAt(w:World)(base:Nat)(v:Value)(M:List MarkD):Prop where
 own:w.ownsRow base 141 3 v M.length (M.map markC).flatten
 nat:∀m∈M,MarkN m
theorem MarksAt.nil{w:World}{base:Nat}:MarksAt w base (.slice none 0 0) []:=⟨⟨rfl,.inl ⟨rfl,rfl⟩⟩,by simp⟩
theorem MarksAt.read{w:World}{base:Nat}{v:Value}{M:List MarkD}(h:MarksAt w base v M):rMarks.r (fun q=>base≤q∧q<w.heap.size) w [v] M:=
 OwnEls.slice (Nat.le_refl _) ⟨M.map markC,h.own,by simp,by intro cs hcs;obtain⟨m,_,rfl⟩:=List.mem_map.1 hcs;rfl,fun i cs x hi hx=>by
  rw[List.getElem?_map,hx] at hi
  simp at hi
  subst hi
  exact mark_mk (h.nat x (List.mem_of_getElem? hx))⟩
def footM(ep:Int)(M:List MarkD)(at_ size:Int):FootD:=⟨ep,M.length,countM M,(endsM M).1,(endsM M).2,at_,size⟩
theorem seg_footOf(ep:Int)(M:List MarkD)(at_ size:Int)(al:Option Addr)(nl cl:Nat)(w:World)(hl:rMarks.r (·<w.heap.size) w [.slice al nl cl] M)(hR:marksR M=true):
  Calls Tryz.prog 245 #[.int .u64 ep,.slice al nl cl,.int .i64 at_,.int .i64 size] w fun r w'=>r=.returned (.agg (footM ep M at_ size).val)∧Below w.heap.size w w':=by
 obtain⟨rfl,hm,_,_⟩:=sl_len hl
 have HE:=hid (fun (W:World) (hW:Below w.heap.size w W)=>index_entries W M al _ cl (lift hl hW) hR)
 have HN:=hid (fun (W:World) (hW:Below w.heap.size w W)=>index_ends W M al _ cl (lift hl hW) hR)
 have hff:Hid ((footM ep M at_ size).val=#[.int .u64 ep,.int .i64 M.length,.int .i64 (countM M),.int .u64 (endsM M).1,.int .u64 (endsM M).2,.int .i64 at_,.int .i64 size]):=hid rfl
 generalize countM M=n at*
 generalize (endsM M).1=e1 at*
 generalize (endsM M).2=e2 at*
 clear hl hR
 go_enter Tryz.func245,Tryz.ntmps245
 go_wp2_with fail
 refine (HE.out _ (by (repeat (first | exact Below.refl _ _ | assumption | (refine below_alloc ?_ _) | (refine Below.setCell ?_ (by first | omega | (simp;done) | (simp;omega)) _) | (refine Below.drew ?_) | (refine below_drewN ?_ _) | (refine below_then (by assumption) ?_))))).mono ?_
 rintro r w1 ⟨rfl,hb1⟩
 have hz1:w.heap.size+1≤w1.heap.size:=by have:=hb1.size;simpa using this
 have q0:=(Blk.new w 152 #[.int .u64 0,.int .i64 0,.int .i64 0,.int .u64 0,.int .u64 0,.int .i64 0,.int .i64 0]).later hb1
 have hbw1:Below w.heap.size w w1:=by (repeat (first | exact Below.refl _ _ | assumption | (refine below_alloc ?_ _) | (refine Below.setCell ?_ (by first | omega | (simp;done) | (simp;omega)) _) | (refine Below.drew ?_) | (refine below_drewN ?_ _) | (refine below_then (by assumption) ?_)))
 have Q0:=hid q0
 clear q0
 go_wp2_with fail
 refine (HN.out _ (by (repeat (first | exact Below.refl _ _ | assumption | (refine below_alloc ?_ _) | (refine Below.setCell ?_ (by first | omega | (simp;done) | (simp;omega)) _) | (refine Below.drew ?_) | (refine below_drewN ?_ _) | (refine below_then (by assumption) ?_))))).mono ?_
 rintro r w2 ⟨rfl,hb2⟩
 have hB:=(Blk.new w1 152 #[.int .u64 ep,.int .i64 M.length,.int .i64 n,.int .u64 0,.int .u64 0,.int .i64 at_,.int .i64 size]).later hb2
 have hbw2:Below w.heap.size w w2:=by (repeat (first | exact Below.refl _ _ | assumption | (refine below_alloc ?_ _) | (refine Below.setCell ?_ (by first | omega | (simp;done) | (simp;omega)) _) | (refine Below.drew ?_) | (refine below_drewN ?_ _) | (refine below_then (by assumption) ?_)))
 have hz12:w1.heap.size<w2.heap.size:=hB.lt
 have hB0:=Q0.out.later (below_then hb2 (by (repeat (first | exact Below.refl _ _ | assumption | (refine below_alloc ?_ _) | (refine Below.setCell ?_ (by first | omega | (simp;done) | (simp;omega)) _) | (refine Below.drew ?_) | (refine below_drewN ?_ _) | (refine below_then (by assumption) ?_)))))
 have c0:w2.cell? ⟨w1.heap.size,0,none⟩=some (.int .u64 ep):=hB.cell 0
 have z0:w2.cell? ⟨w.heap.size,0,none⟩=some (.int .u64 0):=hB0.cell 0
 have g0:=hB0.free 0
 have c1:w2.cell? ⟨w1.heap.size,1,none⟩=some (.int .i64 M.length):=hB.cell 1
 have z1:w2.cell? ⟨w.heap.size,1,none⟩=some (.int .i64 0):=hB0.cell 1
 have g1:=hB0.free 1
 have c2:w2.cell? ⟨w1.heap.size,2,none⟩=some (.int .i64 n):=hB.cell 2
 have z2:w2.cell? ⟨w.heap.size,2,none⟩=some (.int .i64 0):=hB0.cell 2
 have g2:=hB0.free 2
 have c3:w2.cell? ⟨w1.heap.size,3,none⟩=some (.int .u64 0):=hB.cell 3
 have z3:w2.cell? ⟨w.heap.size,3,none⟩=some (.int .u64 0):=hB0.cell 3
 have g3:=hB0.free 3
 have c4:w2.cell? ⟨w1.heap.size,4,none⟩=some (.int .u64 0):=hB.cell 4
 have z4:w2.cell? ⟨w.heap.size,4,none⟩=some (.int .u64 0):=hB0.cell 4
 have g4:=hB0.free 4
 have c5:w2.cell? ⟨w1.heap.size,5,none⟩=some (.int .i64 at_):=hB.cell 5
 have z5:w2.cell? ⟨w.heap.size,5,none⟩=some (.int .i64 0):=hB0.cell 5
 have g5:=hB0.free 5
 have c6:w2.cell? ⟨w1.heap.size,6,none⟩=some (.int .i64 size):=hB.cell 6
 have z6:w2.cell? ⟨w.heap.size,6,none⟩=some (.int .i64 0):=hB0.cell 6
 have g6:=hB0.free 6
 have f3:=hB.free 3
 have f4:=hB.free 4
 clear hB hB0
 go_wp2
 refine bodyPost_ret (v:=.agg #[.int .u64 ep,.int .i64 M.length,.int .i64 n,.int .u64 e1,.int .u64 e2,.int .i64 at_,.int .i64 size]) (by simp[results,Tryz.results245,go_sem,World.cell?_setCell_far,z0,z1,z2,z3,z4,z5,z6]) rfl ⟨by rw[hff.out],by clear hb1 hb2 hbw1;(repeat (first | with_reducible exact Below.refl _ _ | with_reducible assumption | (with_reducible refine below_alloc ?_ _) | (with_reducible refine Below.setCell ?_ (by first | omega | (simp;done) | (simp;omega)) _) | (with_reducible refine Below.drew ?_) | (with_reducible refine below_drewN ?_ _) | (refine below_then (by with_reducible assumption) ?_)))⟩
end Go.Proofs.YtmioakocnebceaaGreat
namespace Go.Bs
open Go.RowKit
def endP:Int→List MarkD→Int
 | p,[]=>p
 | _,m::l=>endP (m.pos+m.count) l
def endA:Int→List MarkD→Int
 | a,[]=>a
 | _,m::l=>endA m.at_ l
theorem endP_snoc:∀(M:List MarkD) (p:Int) (m:MarkD),endP p (M++[m])=m.pos+m.count
 | [],_,_=>rfl
 | x::M,p,m=>endP_snoc M _ m
theorem endA_snoc:∀(M:List MarkD) (p:Int) (m:MarkD),endA p (M++[m])=m.at_
 | [],_,_=>rfl
 | x::M,p,m=>endA_snoc M _ m
theorem riseM_snoc:∀(M:List MarkD) (p a:Int) (m:MarkD),riseM p a (M++[m])=(riseM p a M&&fitsM m (endP p M) (endA a M))
 | [],p,a,m=>by simp[riseM,endP,endA]
 | x::M,p,a,m=>by
  simp only[List.cons_append,riseM,endP,endA]
  rw[riseM_snoc M _ _ m,Bool.and_assoc]
theorem endP_ge:∀(M:List MarkD) (p a:Int),riseM p a M=true→p+countM M≤endP p M∧(M≠[]→endP p M≤4611686018427387904)
 | [],p,a,_=>by simp[countM,endP]
 | x::M,p,a,h=>by
  simp only[riseM,Bool.and_eq_true] at h
  obtain⟨h1,h2,h3,h4,h5,h6,h7⟩:=fitsM_facts h.1
  have h8:=endP_ge M (x.pos+x.count) x.at_ h.2
  simp only[countM,List.map_cons,List.sum_cons,endP] at h8 ⊢
  refine⟨by omega,fun _=> ?_⟩
  cases M with
  | nil=>simpa [endP] using h5
  | cons y M=>exact h8.2 (by simp)
theorem endsM_eq:∀(M:List MarkD) (p:Int),M≠[]→(endsM M).2=endP p M:=by
 intro M p h
 have h0:0<M.length:=List.length_pos_iff.2 h
 rw[endsM_some h0]
 dsimp only
 have e2:=endP_snoc M.dropLast p (M.getLast h)
 rw[List.dropLast_concat_getLast] at e2
 rw[e2,List.getLast_eq_getElem]
theorem foot_right{ep:Int}{M:List MarkD}{at_ size:Int}(he:epR ep=true)(hM:marksR M=true)(hn:∀m∈M,MarkN m)(ha:1≤at_∧at_≤1099511627775)(hs:1≤size∧size≤2097152):FootR ⟨ep,M.length,countM M,(endsM M).1,(endsM M).2,at_,size⟩:=by
 have hM':=hM
 simp only[marksR,Bool.and_eq_true,decide_eq_true_eq] at hM'
 have hc:=countM_le M fun m hm=>by obtain⟨h1,h2,_⟩:=riseM_mem M 0 0 hM'.1 m hm;exact⟨h1,h2⟩
 refine⟨he,by simp,by dsimp only;omega,hc.1,by dsimp only;omega,ha.1,ha.2,hs.1,hs.2,?_⟩
 dsimp only
 cases M with
 | nil=>simp [endsM]
 | cons x M=>
  rw[if_neg (by simp;omega)]
  have h0:=hM'.1
  simp only[riseM,Bool.and_eq_true] at h0
  obtain⟨h1,h2,h3,h4,h5,h6,h7⟩:=fitsM_facts h0.1
  have hr:riseM x.pos 0 (x::M)=true:=by
   simp only[riseM,Bool.and_eq_true]
   exact⟨by simp only[fitsM,Bool.and_eq_true,decide_eq_true_eq];omega,h0.2⟩
  have h8:=endP_ge (x::M) x.pos 0 hr
  have h9:=endsM_eq (x::M) x.pos (by simp)
  have h10:(endsM (x::M)).1=x.pos:=by rw[endsM_some (by simp)];rfl
  rw[h9,h10]
  have h11:=(hn x (List.mem_cons_self ..)).p.1
  have h12:=h8.2 (by simp)
  have h13:=hc.1
  simp only[List.length_cons] at h13
  refine⟨h11,by omega,h12,by omega⟩
end Go.Bs
namespace Go.Proofs.YtmioakocnebceaaGreat
open Go.RowKit Go.Bs Go.Maps
theorem batchR_facts{b:Batch}(h:batchR b=true):1≤b.epoch∧b.epoch<4611686018427387904∧1≤b.entries.length∧b.entries.length≤16∧b.base+b.entries.length≤4611686018427387904∧total b.entries≤1048576:=by
 simp only[batchR,epR,fitsR,Bool.and_eq_true,decide_eq_true_eq] at h
 exact⟨h.1.1,h.1.2,h.2.1.1,h.2.1.2.1,h.2.1.2.2.2,h.2.2.1⟩
theorem chainR_mem{e:Int}:∀{p:Option Batch} {l:List Batch},chainR e p l=true→∀b∈l,batchR b=true
 | _,[],_,b,hb=>by cases hb
 | p,x::l,h,b,hb=>by
  simp only[chainR,Bool.and_eq_true] at h
  rcases List.mem_cons.1 hb with rfl | hb
  ·exact h.1
  ·exact chainR_mem h.2.2 b hb
theorem segR_facts{g:Seg}(h:segR g=true):(1≤g.epoch∧g.epoch<4611686018427387904)∧g.batches.length≤16∧∀b∈g.batches,batchR b=true:=by
 simp only[segR,epR,Bool.and_eq_true,decide_eq_true_eq] at h
 exact⟨h.1,h.2.1,chainR_mem h.2.2⟩
def segGo:List UInt8→List MarkD→List Batch→List UInt8 × List MarkD
 | J,M,[]=>(J,M)
 | J,M,b::l=>segGo (J++recB 1 (batchB b)) (M++[⟨b.base,b.entries.length,J.length⟩]) l
def segW(ep:Int)(l:List Batch):List UInt8 × List MarkD:=segGo (headHB 3 ep.toNat 0) [] l
def segX(ep:Int)(l:List Batch):List UInt8:=recB 2 (indexB (segW ep l).2)
def segF(ep:Int)(l:List Batch):FootD:=footM ep (segW ep l).2 (segW ep l).1.length (segX ep l).length
def segB(ep:Int)(l:List Batch):List UInt8:=(segW ep l).1++segX ep l++footB (segF ep l)
theorem segGo_step(J:List UInt8)(M:List MarkD)(l:List Batch)(k:Nat)(h:k<l.length):segGo J M (l.drop k)=segGo (J++recB 1 (batchB l[k])) (M++[⟨l[k].base,l[k].entries.length,J.length⟩]) (l.drop (k+1)):=by
 rw[List.drop_eq_getElem_cons h];rfl
theorem batchB_le{b:Batch}(h:batchR b=true):(batchB b).length≤1100000:=by
 have h1:=(batchB_len h).2
 have h2:=(varB_len (total b.entries)).1
 have h3:=(batchR_facts h).2.2.2.2.2
 omega
theorem recB_len(k:UInt8)(D:List UInt8):(recB k D).length≤D.length+15∧1≤(recB k D).length:=by
 have:=varB_len (k::D).length
 simp only[recB,frameB_len,blobB_len,List.length_cons] at this ⊢
 omega
theorem headHB_len{v ep bs:Nat}(h1:ep<4611686018427387904)(h2:bs<4611686018427387904):(headHB v ep bs).length≤27∧5≤(headHB v ep bs).length:=by
 have:=headP_len (v:=v) (varB_len9 (x:=ep) (by omega)) (varB_len9 (x:=bs) (by omega))
 simp only[headHB,List.length_append,fixedB_len]
 simp only[headP,List.length_append,List.length_cons] at this ⊢
 omega
theorem segGo_right{e:Int}:∀(l:List Batch) (J:List UInt8) (M:List MarkD) (p:Option Batch),riseM 0 0 M=true→(∀m∈M,MarkN m)→(match p with | none=>endP 0 M=0 | some b=>endP 0 M=b.base+b.entries.length)→endA 0 M<J.length→J.length+1200000*l.length≤1000000000→M.length+l.length≤16→(∀b∈l,batchN b)→chainR e p l=true→
  marksR (segGo J M l).2=true∧(segGo J M l).1.length≤J.length+1200000*l.length∧J.length≤(segGo J M l).1.length∧∀m∈(segGo J M l).2,MarkN m
 | [],J,M,p,hM,hN,_,_,_,hl,_,_=>by
  refine⟨?_,by simp[segGo],by simp[segGo],hN⟩
  simp only[segGo,marksR,hM,Bool.true_and]
  exact decide_eq_true (by simpa using hl)
 | b::l,J,M,p,hM,hN,hp,hA,hJ,hl,hbn,hc=>by
  simp only[chainR,Bool.and_eq_true] at hc
  obtain⟨hb,hm,hc⟩:=hc
  have hB:=batchB_le hb
  have hr:=recB_len 1 (batchB b)
  obtain⟨f1,f2,f3,f4,f5,f6⟩:=batchR_facts hb
  have hbn0:=(hbn b (List.mem_cons_self ..)).2.1
  simp only[List.length_cons] at hJ hl
  have hfit:fitsM ⟨b.base,b.entries.length,J.length⟩ (endP 0 M) (endA 0 M)=true:=by
   simp only[fitsM,Bool.and_eq_true,decide_eq_true_eq]
   refine⟨by omega,by omega,?_,by omega,by omega,hA,by omega⟩
   cases p with
   | none=>rw [show endP 0 M=0 from hp];omega
   | some q=>
    simp only[mayR,Bool.and_eq_true,decide_eq_true_eq] at hm
    rw[show endP 0 M=q.base+q.entries.length from hp];exact hm.2.2
  have hr2:=segGo_right (e:=e) l (J++recB 1 (batchB b)) (M++[⟨b.base,b.entries.length,J.length⟩]) (some b) (by rw[riseM_snoc,hM,hfit];rfl)
   (fun m hm=>by
    rcases List.mem_append.1 hm with hm | hm
    ·exact hN m hm
    ·rw[List.mem_singleton] at hm;subst hm;exact⟨hbn0,by dsimp only;omega,by dsimp only;omega⟩)
   (by dsimp only;rw[endP_snoc]) (by rw[endA_snoc];simp;omega) (by rw[List.length_append];omega) (by rw[List.length_append];simp;omega) (fun x hx=>hbn x (List.mem_cons_of_mem _ hx)) hc
  simp only[segGo]
  refine⟨hr2.1,?_,?_,hr2.2.2.2⟩
  ·have:=hr2.2.1;rw[List.length_append] at this;simp only[List.length_cons];omega
  ·have:=hr2.2.2.1;rw[List.length_append] at this;omega
theorem segW_right{ep:Int}{l:List Batch}(hR:segR ⟨ep,l⟩=true)(hbn:∀b∈l,batchN b):marksR (segW ep l).2=true∧5≤(segW ep l).1.length∧(segW ep l).1.length≤20000000∧∀m∈(segW ep l).2,MarkN m:=by
 obtain⟨h1,h2,_⟩:=segR_facts hR
 simp only[segR,Bool.and_eq_true,decide_eq_true_eq] at hR
 have h1':1≤ep∧ep<4611686018427387904:=h1
 have h2':l.length≤16:=h2
 have hh:=headHB_len (v:=3) (ep:=ep.toNat) (bs:=0) (by omega) (by omega)
 have:=segGo_right (e:=ep) l (headHB 3 ep.toNat 0) [] none rfl (by simp) rfl (by simp only[endA];omega) (by omega) (by simpa using h2') hbn hR.2.2
 unfold segW
 exact⟨this.1,by omega,by omega,this.2.2.2⟩
theorem indexB_len{M:List MarkD}(h:marksR M=true):(indexB M).length≤490:=by
 simp only[marksR,Bool.and_eq_true,decide_eq_true_eq] at h
 have h1:=(varB_len M.length).1
 have h2:=marksB_len M 0 0
 simp only[indexB,List.length_append]
 omega
theorem segF_right{ep:Int}{l:List Batch}(hR:segR ⟨ep,l⟩=true)(hbn:∀b∈l,batchN b):FootR (segF ep l):=by
 obtain⟨h1,h2,h3,h4⟩:=segW_right hR hbn
 have h5:=indexB_len h1
 have h6:=recB_len 2 (indexB (segW ep l).2)
 simp only[segR,Bool.and_eq_true] at hR
 exact foot_right hR.1 h1 h4 (by omega) (by unfold segX;omega)
def segZ:List Value:=[.int .u64 0,.int .i64 0,.int .i64 0,.int .u64 0,.int .u64 0,.int .i64 0,.int .i64 0]
structure SegI(w W:World)(ep:Int)(a:Option Addr)(n c:Nat)(J:List UInt8)(M:List MarkD)(aJ:Option Addr)(cJ:Nat)(aM:Option Addr)(cM:Nat):Prop where
 below:Below w.heap.size w W
 bx:Blk W w.heap.size 28 #[.int .u64 ep,.slice a n c]
 br:Blk W (w.heap.size+1) 201 (.slice none 0 0:: .slice none 0 0::segZ).toArray
 x:Blk W (w.heap.size+2) 201 (.slice aJ J.length cJ:: .slice aM M.length cM::segZ).toArray
 j:OwnB W (w.heap.size+3) (.slice aJ J.length cJ) J
 m:MarksAt W (w.heap.size+3) (.slice aM M.length cM) M
section
variable {w W:World} {ep:Int} {a:Option Addr} {n c:Nat} {J:List UInt8} {M:List MarkD} {aJ:Option Addr} {cJ:Nat} {aM:Option Addr} {cM:Nat}
theorem MarksAt.below{W W':World}{b:Nat}{v:Value}{M:List MarkD}(h:MarksAt W b v M)(hb:Below W.heap.size W W'):MarksAt W' b v M:=⟨own_below h.own hb,h.nat⟩
theorem SegI.later(h:SegI w W ep a n c J M aJ cJ aM cM){W':World}(hb:Below W.heap.size W W'):SegI w W' ep a n c J M aJ cJ aM cM:=
 ⟨below_then hb h.below,h.bx.later hb,h.br.later hb,h.x.later hb,own_below h.j hb,h.m.below hb⟩
theorem SegI.ne(h:SegI w W ep a n c J M aJ cJ aM cM):∀b,(Value.slice aJ J.length cJ).ownBlock=some b→(Value.slice aM M.length cM).ownBlock≠some b:=own_ne h.j h.m.own (by decide)
theorem SegI.far{v:Value}{u:Nat}{xs:List Value}{e:TypeId}{sz:Nat}(h:W.ownsRow (w.heap.size+3) e sz v u xs){b:Nat}(hb:b<w.heap.size+3):v.ownBlock≠some b:=fun e=>by have:=(own_lt h b e).1;omega
theorem SegI.mark(h:SegI w W ep a n c J M aJ cJ aM cM){W2:World}{m:MarkD}(hm:MarkN m){aM':Option Addr}{cM':Nat}
  (hown:W2.ownsRow (w.heap.size+3) 141 3 (.slice aM' (M.length+1) cM') (M.length+1) ((M.map markC).flatten++markC m)) (hg:W.grownBy W2 (Value.slice aM M.length cM).ownBlock):
  SegI w (W2.setCell ⟨w.heap.size+2,1,none⟩ (.slice aM' (M.length+1) cM')) ep a n c J (M++[m]) aJ cJ aM' cM':=by
 have hl:(M++[m]).length=M.length+1:=by simp
 have hb2:Below w.heap.size w W2:=h.below.grown hg h.below.size (fun g e=>by have:=(own_lt h.m.own g e).1;omega)
 have f2:(Value.slice aM' (M.length+1) cM').ownBlock≠some (w.heap.size+2):=SegI.far hown (by omega)
 refine⟨hb2.setCell (by dsimp only;omega) _,?_,?_,?_,?_,?_,?_⟩
 ·exact (h.bx.grown hg (fun e=>SegI.far h.m.own (by omega) e.symm)).far (by dsimp only;omega) _
 ·exact (h.br.grown hg (fun e=>SegI.far h.m.own (by omega) e.symm)).far (by dsimp only;omega) _
 ·rw[hl]
  exact (h.x.grown hg (fun e=>SegI.far h.m.own (by omega) e.symm)).set 1 _
 ·refine own_stays (own_stays h.j fun b hv hl=>hg.block b hl (fun e=>h.ne b hv e.symm)) fun b hv hl=>Below.heap_setCell _ _ _ _ (fun e=> ?_)
  have:=(own_lt h.j b hv).1
  dsimp only at e
  omega
 ·rw[hl,List.map_append,List.flatten_append]
  simp only[List.map_cons,List.map_nil,List.flatten_cons,List.flatten_nil,List.append_nil]
  exact own_stays hown fun b hv hl=>Below.heap_setCell _ _ _ _ (fun e=>f2 (by rw[hv,e]))
 ·intro x hx
  rcases List.mem_append.1 hx with hx | hx
  ·exact h.m.nat x hx
  ·rw[List.mem_singleton] at hx;subst hx;exact hm
theorem SegI.more(h:SegI w W ep a n c J M aJ cJ aM cM){W2:World}{D:List UInt8}{aJ':Option Addr}{cJ':Nat}
  (hown:W2.ownsRow (w.heap.size+3) 5 1 (.slice aJ' (J.length+D.length) cJ') (J.length+D.length) (byteCells J++byteCells D)) (hg:W.grownBy W2 (Value.slice aJ J.length cJ).ownBlock):
  SegI w (W2.setCell ⟨w.heap.size+2,0,none⟩ (.slice aJ' (J.length+D.length) cJ')) ep a n c (J++D) M aJ' cJ' aM cM:=by
 have hl:(J++D).length=J.length+D.length:=by simp
 have hb2:Below w.heap.size w W2:=h.below.grown hg h.below.size (fun g e=>by have:=(own_lt h.j g e).1;omega)
 have f2:(Value.slice aJ' (J.length+D.length) cJ').ownBlock≠some (w.heap.size+2):=SegI.far hown (by omega)
 refine⟨hb2.setCell (by dsimp only;omega) _,?_,?_,?_,?_,?_,h.m.nat⟩
 ·exact (h.bx.grown hg (fun e=>SegI.far h.j (by omega) e.symm)).far (by dsimp only;omega) _
 ·exact (h.br.grown hg (fun e=>SegI.far h.j (by omega) e.symm)).far (by dsimp only;omega) _
 ·rw[hl]
  exact (h.x.grown hg (fun e=>SegI.far h.j (by omega) e.symm)).set 0 _
 ·have ho:OwnB W2 (w.heap.size+3) (.slice aJ' (J.length+D.length) cJ') (J++D):=OwnB.app hown
  rw[hl]
  exact own_stays ho fun b hv hl=>Below.heap_setCell _ _ _ _ (fun e=>f2 (by rw[hv,e]))
 ·refine own_stays (own_stays h.m.own fun b hv hl=>hg.block b hl (fun e=>h.ne b e.symm hv)) fun b hv hl=>Below.heap_setCell _ _ _ _ (fun e=> ?_)
  have:=(own_lt h.m.own b hv).1
  dsimp only at e
  omega
end
theorem tch7(w:World)(g:Nat)(v2 v3 v4 v5 v6 v7 v8:Value):Tch (·=g) w ((((((((w).setCell ⟨g,2,none⟩ v2).setCell ⟨g,3,none⟩ v3).setCell ⟨g,4,none⟩ v4).setCell ⟨g,5,none⟩ v5).setCell ⟨g,6,none⟩ v6).setCell ⟨g,7,none⟩ v7).setCell ⟨g,8,none⟩ v8):=
 Tch.setCell (F:=(·=g)) (Tch.setCell (F:=(·=g)) (Tch.setCell (F:=(·=g)) (Tch.setCell (F:=(·=g)) (Tch.setCell (F:=(·=g)) (Tch.setCell (F:=(·=g)) (Tch.setCell (F:=(·=g)) (Tch.refl (·=g) w) (p:=⟨g,2,none⟩) (fun _=>rfl) v2) (p:=⟨g,3,none⟩) (fun _=>rfl) v3) (p:=⟨g,4,none⟩) (fun _=>rfl) v4) (p:=⟨g,5,none⟩) (fun _=>rfl) v5) (p:=⟨g,6,none⟩) (fun _=>rfl) v6) (p:=⟨g,7,none⟩) (fun _=>rfl) v7) (p:=⟨g,8,none⟩) (fun _=>rfl) v8
theorem tch10(w:World)(x r:Nat)(u v0 v1 v2 v3 v4 v5 v6 v7 v8:Value):Tch (fun b=>b=x∨b=r) w (((((((((((w.setCell ⟨x,0,none⟩ u)).setCell ⟨r,0,none⟩ v0).setCell ⟨r,1,none⟩ v1).setCell ⟨r,2,none⟩ v2).setCell ⟨r,3,none⟩ v3).setCell ⟨r,4,none⟩ v4).setCell ⟨r,5,none⟩ v5).setCell ⟨r,6,none⟩ v6).setCell ⟨r,7,none⟩ v7).setCell ⟨r,8,none⟩ v8):=
 Tch.setCell (F:=fun b=>b=x∨b=r) (Tch.setCell (F:=fun b=>b=x∨b=r) (Tch.setCell (F:=fun b=>b=x∨b=r) (Tch.setCell (F:=fun b=>b=x∨b=r) (Tch.setCell (F:=fun b=>b=x∨b=r) (Tch.setCell (F:=fun b=>b=x∨b=r) (Tch.setCell (F:=fun b=>b=x∨b=r) (Tch.setCell (F:=fun b=>b=x∨b=r) (Tch.setCell (F:=fun b=>b=x∨b=r) (Tch.setCell (F:=fun b=>b=x∨b=r) (Tch.refl _ w) (p:=⟨x,0,none⟩) (fun _=> .inl rfl) u) (p:=⟨r,0,none⟩) (fun _=> .inr rfl) v0) (p:=⟨r,1,none⟩) (fun _=> .inr rfl) v1) (p:=⟨r,2,none⟩) (fun _=> .inr rfl) v2) (p:=⟨r,3,none⟩) (fun _=> .inr rfl) v3) (p:=⟨r,4,none⟩) (fun _=> .inr rfl) v4) (p:=⟨r,5,none⟩) (fun _=> .inr rfl) v5) (p:=⟨r,6,none⟩) (fun _=> .inr rfl) v6) (p:=⟨r,7,none⟩) (fun _=> .inr rfl) v7) (p:=⟨r,8,none⟩) (fun _=> .inr rfl) v8
theorem three_blocks(w:World)(t1 t2 t3:TypeId)(s1 s2 s3:Array Value){w':World}(hb:Below (((w.alloc (.cells s1 t1)).alloc (.cells s2 t2)).alloc (.cells s3 t3)).heap.size (((w.alloc (.cells s1 t1)).alloc (.cells s2 t2)).alloc (.cells s3 t3)) w'):
  Blk w' w.heap.size t1 s1∧Blk w' (w.heap.size+1) t2 s2∧Blk w' (w.heap.size+2) t3 s3∧Below w.heap.size w w'∧w.heap.size+3≤w'.heap.size:=
 ⟨(((Blk.new w t1 s1).alloc _).alloc _).later hb,((Blk.new1 w _ t2 s2).alloc _).later hb,(Blk.newAt _ t3 s3 (by simp)).later hb,below_then hb (below_alloc (below_alloc (below_alloc (Below.refl _ _) _) _) _),by have:=hb.size;simpa using this⟩
theorem written_b(W:World)(x u f0 f1 f2 f3 f4 f5 f6:Value):(Instr.field 201 (.agg #[x,u,f0,f1,f2,f3,f4,f5,f6]) 0).run Tryz.prog W=.ok x W:=by kernel_rfl
theorem SegI.mark1{w W:World}{ep:Int}{a:Option Addr}{n c:Nat}{J:List UInt8}{M:List MarkD}{aJ:Option Addr}{cJ:Nat}{aM:Option Addr}{cM:Nat}(h:SegI w W ep a n c J M aJ cJ aM cM){W2:World}{m:MarkD}(hm:MarkN m){aM':Option Addr}{cM':Nat}
  (hown:W2.ownsRow (w.heap.size+3) 141 3 (.slice aM' (M.length+1) cM') (M.length+1) ((M.map markC).flatten++markC m)) (hg:W.grownBy W2 (Value.slice aM M.length cM).ownBlock):
  SegI w (W2.setCell ⟨w.heap.size+1+1,1,none⟩ (.slice aM' (M.length+1) cM')) ep a n c J (M++[m]) aJ cJ aM' cM':=SegI.mark h hm hown hg
theorem SegI.more1{w W:World}{ep:Int}{a:Option Addr}{n c:Nat}{J:List UInt8}{M:List MarkD}{aJ:Option Addr}{cJ:Nat}{aM:Option Addr}{cM:Nat}(h:SegI w W ep a n c J M aJ cJ aM cM){W2:World}{D:List UInt8}{aJ':Option Addr}{cJ':Nat}
  (hown:W2.ownsRow (w.heap.size+3) 5 1 (.slice aJ' (J.length+D.length) cJ') (J.length+D.length) (byteCells J++byteCells D)) (hg:W.grownBy W2 (Value.slice aJ J.length cJ).ownBlock):
  SegI w (W2.setCell ⟨w.heap.size+1+1,0,none⟩ (.slice aJ' (J.length+D.length) cJ')) ep a n c (J++D) M aJ' cJ' aM cM:=SegI.more h hown hg
theorem MarksAt.row{w:World}{base:Nat}{v:Value}{M:List MarkD}(h:MarksAt w base v M):rMarks.r (fun q=>v.ownBlock=some q) w [v] M:=by
 have hF:OwnElsF (fun _=>False) rMark base 141 3 w v M (M.map markC):=⟨h.own,by simp,by intro cs hcs;obtain⟨m,_,rfl⟩:=List.mem_map.1 hcs;rfl,fun i cs x hi hx=>by
  rw[List.getElem?_map,hx] at hi
  simp at hi
  subst hi
  exact mark_mk (h.nat x (List.mem_of_getElem? hx))⟩
 exact rMarks.mono (OwnElsF.slice hF) fun q hq=>hq.resolve_left id
theorem seg_write(ep:Int)(l:List Batch)(a:Option Addr)(n c:Nat)(w:World)(hl:rBatches.r (·<w.heap.size) w [.slice a n c] l)(hR:segR ⟨ep,l⟩=true)(hbn:∀b∈l,batchN b)(htm:∀b∈l,TameE b.entries):
  Calls Tryz.prog 128 #[.agg #[.int .u64 ep,.slice a n c]] w fun r w'=>∃v u,r=.returned (.agg #[v,u,.int .u64 (segF ep l).ep,.int .i64 (segF ep l).n,.int .i64 (segF ep l).en,.int .u64 (segF ep l).first,.int .u64 (segF ep l).fin,.int .i64 (segF ep l).at_,.int .i64 (segF ep l).size])∧rBytes.r (fun q=>w.heap.size≤q∧q<w'.heap.size) w' [v] (segB ep l)∧rMarks.r (fun q=>w.heap.size≤q∧q<w'.heap.size) w' [u] (segW ep l).2∧Below w.heap.size w w':=by
 obtain⟨rfl,hm,_,_⟩:=sl_len hl
 obtain⟨i0,hi,hz0,hz1,hz2⟩:=info_parts info8
 obtain⟨j0,hj,hy0,hy1,hy2⟩:=info_parts infoMark
 have hl16:l.length≤16:=(segR_facts hR).2.1
 have HBR:=hid (segR_facts hR).2.2
 have HBN:=hid hbn
 have HTM:=hid htm
 have HL:=hid hl
 have HRR:=hid hR
 have he:epR ep=true:=by simp only[segR,Bool.and_eq_true] at hR;exact hR.1
 have he':=he
 simp only[epR,decide_eq_true_eq] at he'
 have hte:(ep.toNat:Int)=ep:=by omega
 have HH:=hid (fun W:World=>(by
  have:=header_bytes W 3 ep.toNat 0 (by simp only[hdrR,hte,he,poR];decide)
  rw[hte] at this
  exact this:Calls Tryz.prog 105 #[.agg #[.int .i64 3,.int .u64 ep,.int .u64 0]] W fun r w'=>∃x,r=.returned (.tuple #[x,.int .i64 0])∧OwnB w' W.heap.size x (headHB 3 ep.toNat 0)∧Below W.heap.size W w'))
 have hhl:=headHB_len (v:=3) (ep:=ep.toNat) (bs:=0) (by omega) (by omega)
 have HW0:Hid (segW ep l=segGo (headHB 3 ep.toNat 0) [] l):=hid rfl
 generalize headHB 3 ep.toNat 0=H at*
 clear hR hbn htm hl he hte
 go_enter Tryz.func128,Tryz.ntmps128
 go_wp2_with fail
 refine (HH.out _).mono ?_
 rintro r w1 ⟨v1,rfl,ho1,hb1⟩
 obtain⟨a1,c1,rfl⟩:=ho1.form
 obtain⟨p0,p1,p2,hb0,hz3⟩:=three_blocks w _ _ _ _ _ _ hb1
 have ho1':OwnB w1 (w.heap.size+3) (.slice a1 H.length c1) H:=ho1.low (by simp)
 have k0:w1.cell? ⟨w.heap.size+1+1,0,none⟩=some (.slice none 0 0):=p2.cell 0
 have k1:w1.frozen? ⟨w.heap.size+1+1,0,none⟩=false:=p2.free 0
 have hSI:SegI w (w1.setCell ⟨w.heap.size+2,0,none⟩ (.slice a1 H.length c1)) ep a l.length c H [] a1 c1 none 0:=by
  have h2:(Value.slice a1 H.length c1).ownBlock≠some (w.heap.size+2):=SegI.far ho1' (by omega)
  exact⟨hb0.setCell (by dsimp only;omega) _,p0.far (by dsimp only;omega) _,p1.far (by dsimp only;omega) _,p2.set 0 _,own_stays ho1' fun b hv hl=>Below.heap_setCell _ _ _ _ (fun e=>h2 (by rw[hv,e])),MarksAt.nil⟩
 have HSI:=hid hSI
 have hz21:w.heap.size+2<w1.heap.size:=p2.lt
 have HBX:=hid p0
 clear ho1 ho1' p0 p1 p2 hSI hb1 hb0
 have b1:w1.cell? ⟨w.heap.size,1,none⟩=some (.slice a l.length c):=HBX.out.cell 1
 go_wp2_with fail
 refine wp_world (fun W=>SegI w W ep a l.length c H [] a1 c1 none 0) HSI.out ?_
 intro W hSI
 have HSI:=hid hSI
 clear k0 k1 b1 hSI
 go_loopw [24] (fun i wr=>∃(k:Nat) (J:List UInt8) (M:List MarkD) (aJ:Option Addr) (cJ:Nat) (aM:Option Addr) (cM:Nat),k≤l.length∧i=.int .i64 k∧SegI w wr ep a l.length c J M aJ cJ aM cM∧Hid (segW ep l=segGo J M (l.drop k))∧M.length≤k∧J.length≤27+1200000*k) (fun i _=>l.length-(intOf i).toNat)
 case atStart=>exact ⟨0,H,[],a1,c1,none,0,Nat.zero_le _,rfl,HSI.out,hid HW0.out,Nat.le_refl _,by omega⟩
 case round=>
  obtain⟨k,J,M,aJ,cJ,aM,cM,hk,rfl,hsi,hgo,hMk,hJk⟩:=hrel
  have HSI:=hid hsi
  have hzx:=hsi.x.lt
  have hzr:=hsi.bx.lt
  by_cases hlt:k<l.length
  ·obtain⟨b,o,hA,hbb,a1,c1,x0,x1,x2,n0,n1,hd⟩:=batch_at (lift HL.out hsi.below) hlt
   subst hA
   have hmem:=List.getElem_mem hlt
   have hbr:=HBR.out _ hmem
   have hbn:=HBN.out _ hmem
   have htm:=HTM.out _ hmem
   have hst:=hid (segGo_step J M l k hlt)
   obtain⟨_,_,e1,e2,e3,_⟩:=batchR_facts hbr
   have hble:=batchB_le hbr
   have HRD:=hid hd
   generalize l[k]=z at*
   have HBB:=hid (fun (W:World) (hW:Below wr.heap.size wr W)=>(by have:=batch_bytes W z a1 _ c1 hbn (lift HRD.out hW) htm;unfold batchBytes at this;rw[if_pos hbr] at this;exact this:Calls Tryz.prog 242 #[.agg #[.int .u64 z.epoch,.int .u64 z.base,.slice a1 z.entries.length c1]] W fun r w'=>∃v,r=.returned (.tuple #[v,.int .i64 0])∧rBytes.r (fun q=>W.heap.size≤q∧q<w'.heap.size) w' [v] (batchB z)∧Below W.heap.size W w'))
   have HRC1:=hid (fun (W:World) (a:Option Addr) (n c:Nat) h=>seg_record 1 (by decide) (batchB z) a n c W h (by omega))
   have hrl:=recB_len 1 (batchB z)
   have hMN:MarkN ⟨z.base,z.entries.length,J.length⟩:=⟨n1,by dsimp only;omega,by dsimp only;omega⟩
   have HON:=hid (byteCells_one (recB 1 (batchB z)))
   have i1:(k:Int)<(l.length:Int):=by omega
   generalize hre:recB 1 (batchB z)=RB at*
   have HRE:=hid hre
   generalize batchB z=BZ at*
   have HMN:=hid hMN
   clear hd hmem hbr hbn htm hsi hre hMN
   go_wp2_with fail
   refine (HBB.out _ (by (repeat (first | with_reducible exact Below.refl _ _ | with_reducible assumption | (with_reducible refine below_alloc ?_ _) | (with_reducible refine Below.setCell ?_ (by first | omega | (simp;done) | (simp;omega)) _) | (with_reducible refine Below.drew ?_) | (with_reducible refine below_drewN ?_ _) | (refine below_then (by with_reducible assumption) ?_))))).mono ?_
   rintro r w1 ⟨v1,rfl,hr1,hb1⟩
   obtain⟨a6,c6,hv6,hr6,_⟩:=sl_form hr1
   simp only[List.cons.injEq,and_true] at hv6
   subst hv6
   have hbx:=(Blk.new wr 60 #[.int .u64 z.epoch,.int .u64 z.base,.slice a1 z.entries.length c1]).later hb1
   have hb1':Below wr.heap.size wr w1:=below_then hb1 (by (repeat (first | with_reducible exact Below.refl _ _ | with_reducible assumption | (with_reducible refine below_alloc ?_ _) | (with_reducible refine Below.setCell ?_ (by first | omega | (simp;done) | (simp;omega)) _) | (with_reducible refine Below.drew ?_) | (with_reducible refine below_drewN ?_ _) | (refine below_then (by with_reducible assumption) ?_))))
   have HSI1:=hid (HSI.out.later hb1')
   have HR6:=hid (rBytes.mono (S':=fun q=>wr.heap.size<q∧q<w1.heap.size) hr6 fun q hq=>⟨by have:=hq.1;simp at this;omega,hq.2⟩)
   have HML:Hid (∀q,(Value.slice aM M.length cM).ownBlock=some q→w.heap.size+3≤q∧q<wr.heap.size):=hid fun q e=>own_lt HSI.out.m.own q e
   have y1:w1.cell? ⟨wr.heap.size,1,none⟩=some (.int .u64 z.base):=hbx.cell 1
   have y2:w1.cell? ⟨wr.heap.size,2,none⟩=some (.slice a1 z.entries.length c1):=hbx.cell 2
   have p1:w1.cell? ⟨w.heap.size+1+1,1,none⟩=some (.slice aM M.length cM):=HSI1.out.x.cell 1
   have p0:w1.cell? ⟨w.heap.size+1+1,0,none⟩=some (.slice aJ J.length cJ):=HSI1.out.x.cell 0
   have hzwr:wr.heap.size<w1.heap.size:=hbx.lt
   have hx1:w.heap.size+1+1<w1.heap.size:=HSI1.out.x.lt
   have HB1:=hid hb1'
   clear hr1 hr6 hb1 hb1' hbx x0 x1 x2
   go_wp2_with (at_builtin;(have hb12:Below w1.heap.size w1 (w1.alloc (.cells #[.int .u64 z.base,.int .i64 z.entries.length,.int .i64 J.length] 141)):=below_alloc (Below.refl _ _) _;have HSI2:=hid (HSI1.out.later hb12);refine wpList_append_src rfl _ _ _ rfl (w.heap.size+3) 141 j0 (.agg #[.int .u64 0,.int .i64 0,.int .i64 0]) 3 24 Tryz.underlying94 hj hy0 hy1 hy2 rfl (by decide) (.slice aM M.length cM) M.length _ rfl HSI2.out.m.own (some ⟨w1.heap.size,0,none⟩) 1 1 [.int .u64 z.base,.int .i64 z.entries.length,.int .i64 J.length] rfl (src_new1 w1 141 _ rfl rfl rfl) (by intro u hu;simp at hu;rcases hu with rfl | rfl | rfl<;>rfl) (by simp only[maxLen];omega) (by omega) (by have:=HSI2.out.x.lt;omega) ?_;intro v2 w2 hown2 hgrow2 hat2;obtain⟨a2,c2,rfl⟩:=own_form hown2;have HSI3:=hid (HSI2.out.mark1 HMN.out hown2 hgrow2);have hXg:=HSI2.out.x.grown hgrow2 (fun e=>SegI.far HSI2.out.m.own (by omega) e.symm);have q1:w2.cell? ⟨w.heap.size+1+1,1,none⟩=some (.slice aM M.length cM):=hXg.cell 1;have q2:w2.frozen? ⟨w.heap.size+1+1,1,none⟩=false:=hXg.free 1;have q0:w2.cell? ⟨w.heap.size+1+1,0,none⟩=some (.slice aJ J.length cJ):=hXg.cell 0;have HR7:=hid (rBytes.mono (S':=fun q=>wr.heap.size<q∧q<w2.heap.size) (rBytes.keep HR6.out fun q hq=>(hgrow2.block q (by have:=hb12.size;omega) (fun e=>by have:=(HML.out q e.symm).2;omega)).trans (hb12.block q hq.2)) fun q hq=>by have:=hgrow2.size;have:=hb12.size;omega);clear hown2 hgrow2 hat2 hXg hb12))
   have HR8:Hid (rBytes.r (fun q=>wr.heap.size<q∧q<(w2.setCell ⟨w.heap.size+1+1,1,none⟩ (.slice a2 (M.length+1) c2)).heap.size) (w2.setCell ⟨w.heap.size+1+1,1,none⟩ (.slice a2 (M.length+1) c2)) [.slice a6 BZ.length c6] BZ):=hid (rBytes.mono (rBytes.keep HR7.out fun q hq=>Below.heap_setCell _ _ _ _ (by have:=hq.1;first | omega | (dsimp only;omega))) fun q hq=>by simpa using hq)
   have hq8:(w2.setCell ⟨w.heap.size+1+1,1,none⟩ (.slice a2 (M.length+1) c2)).cell? ⟨w.heap.size+1+1,0,none⟩=some (.slice aJ J.length cJ):=HSI3.out.x.cell 0
   clear q0 q1 q2 p0 p1 y1 y2
   generalize (w2.setCell ⟨w.heap.size+1+1,1,none⟩ (.slice a2 (M.length+1) c2))=W8 at*
   refine wp_region_last_held (fun w'=>w'.cell? ⟨w.heap.size+1+1,0,none⟩=some (.slice aJ J.length cJ)) _ (by kernel_rfl) rfl (by kernel_rfl) hq8 (fun hHeld=> ?_)
   simp only[noopLast,noopOf]
   refine wpAnyH_take (i:=0) (oi:=_) (v:=?_) rfl (by decide+kernel) (by decide+kernel) (by decide+kernel) (fun _ _ _ h=>h) (Or.inl ⟨by rfl,?_⟩) (by assumption) ?_
   rotate_left
   ·(intro w hSw;(try dsimp only at hSw);go_simp<;>with_reducible rfl)
   (try simp only[Act.put,List.setIfInBounds_toArray,List.set_cons_zero,List.set_cons_succ])
   refine wpAnyH_take (i:=1) (oi:=_) (v:=?_) rfl (by decide+kernel) (by decide+kernel) (by decide+kernel) (fun _ _ _ h=>h) (Or.inl ⟨by rfl,?_⟩) (by assumption) ?_
   rotate_left
   ·(intro w hSw;(try dsimp only at hSw);go_simp<;>with_reducible rfl)
   (try simp only[Act.put,List.setIfInBounds_toArray,List.set_cons_zero,List.set_cons_succ])
   refine wpAnyH_take (i:=2) (oi:=_) (v:=?_) rfl (by decide+kernel) (by decide+kernel) (by decide+kernel) (fun _ _ _ h=>h) (Or.inl ⟨by rfl,?_⟩) (by assumption) ?_
   rotate_left
   ·(intro w hSw;(try dsimp only at hSw);go_simp<;>with_reducible rfl)
   (try simp only[Act.put,List.setIfInBounds_toArray,List.set_cons_zero,List.set_cons_succ])
   refine wpAnyH_ready (rs:=[3]) (by decide+kernel) (by simp) ?_
   refine AllReadyH.cons (o:=_) rfl (fun K hK=> ?_) AllReadyH.nil
   (go_simp;go_at_call 243;refine (HRC1.out W8.drew a6 _ c6 (rBytes.mono (S':=(·<W8.drew.heap.size)) HR8.out fun q hq=>hq.2)).mono ?_;rintro e1 w3 ⟨v3,rfl,ho3,hb3⟩;have ho3':OwnB w3 W8.drew.heap.size v3 RB:=ho3;obtain⟨a7,c7,rfl⟩:=ho3'.form;have hb83:Below W8.heap.size W8 w3:=below_then hb3 (Below.refl _ _).drew;have HSI4:=hid (HSI3.out.later hb83);have HS7:=hid (src_bytes (own_bytes rfl ho3'));have k0:w3.cell? ⟨w.heap.size+1+1,0,none⟩=some (.slice aJ J.length cJ):=HSI4.out.x.cell 0;clear ho3 ho3' hb3 hb83;(try dsimp only))
   refine hK.out _ _ ?_ (fun hHeld=> ?_)
   ·((try dsimp only);first | assumption | (go_keep;done))
   clear hK K
   (try simp only[Act.put,List.setIfInBounds_toArray,List.set_cons_zero,List.set_cons_succ])
   refine wpAnyH_ready (rs:=[4]) (by decide+kernel) (by simp) ?_
   refine AllReadyH.cons (o:=_) rfl (fun K hK=> ?_) AllReadyH.nil
   (refine step_append_src (by rfl) _ _ _ (by rfl) (w.heap.size+3) 5 i0 (.int .u8 0) 1 1 Tryz.underlying22 hi hz0 hz1 hz2 rfl (by decide) (.slice aJ J.length cJ) J.length (byteCells J) (by rfl) HSI4.out.j a7 RB.length c7 (byteCells RB) (by rfl) HS7.out HON.out (by simp only[maxLen];omega) (by omega) (by have:=HSI4.out.x.lt;omega) ?_;intro a8 c8 w8 hown8 hgrow8 hat8;have HSI5:=hid (HSI4.out.more1 hown8 hgrow8);have hXg:=HSI4.out.x.grown hgrow8 (fun e=>SegI.far HSI4.out.j (by omega) e.symm);have m0:w8.cell? ⟨w.heap.size+1+1,0,none⟩=some (.slice aJ J.length cJ):=hXg.cell 0;have m1:w8.frozen? ⟨w.heap.size+1+1,0,none⟩=false:=hXg.free 0;clear hown8 hgrow8 hat8 hXg)
   refine hK.out _ _ ?_ (fun hHeld=> ?_)
   ·((try dsimp only);first | assumption | (go_keep;done))
   clear hK K
   (try simp only[Act.put,List.setIfInBounds_toArray,List.set_cons_zero,List.set_cons_succ])
   refine wpAnyH_take (i:=5) (oi:=_) (v:=?_) rfl (by decide+kernel) (by decide+kernel) (by decide+kernel) (fun _ _ _ h=>h) (Or.inl ⟨by rfl,?_⟩) (by assumption) ?_
   rotate_left
   ·(intro w hSw;(try dsimp only at hSw);go_simp<;>with_reducible rfl)
   (try simp only[Act.put,List.setIfInBounds_toArray,List.set_cons_zero,List.set_cons_succ])
   refine wpAnyH_take (i:=6) (oi:=_) (v:=?_) rfl (by decide+kernel) (by decide+kernel) (by decide+kernel) (fun _ _ _ h=>h) (Or.inl ⟨by rfl,?_⟩) (by assumption) ?_
   rotate_left
   ·(intro w hSw;(try dsimp only at hSw);go_simp<;>with_reducible rfl)
   (try simp only[Act.put,List.setIfInBounds_toArray,List.set_cons_zero,List.set_cons_succ])
   refine wpAnyH_done (by kernel_rfl) ?_ _
   show wpList _ _ _ _ _ _
   go_wp2_with fail
   go_roundw
   case rel=>exact ⟨k+1,J++RB,M++[⟨z.base,z.entries.length,J.length⟩],a8,c8,a2,c2,by omega,by go_num,HSI5.out,hid (hgo.out.trans hst.out),by rw[List.length_append];simp;omega,by rw[List.length_append];omega⟩
   case measure=>simp [intOf];omega
  ·obtain rfl:k=l.length:=by omega
   have hJM:segW ep l=(J,M):=by have:=hgo.out;rw[List.drop_length] at this;exact this
   obtain⟨hMR,hJ5,hJ20,hMN⟩:=segW_right HRR.out HBN.out
   have hFR:=segF_right HRR.out HBN.out
   have hX:segX ep l=recB 2 (indexB M):=by unfold segX;rw[hJM]
   have hF:segF ep l=footM ep M J.length (recB 2 (indexB M)).length:=by unfold segF;rw[hJM,hX]
   have hB:segB ep l=J++recB 2 (indexB M)++footB (segF ep l):=by unfold segB;rw[hJM,hX]
   rw[hJM] at hMR hJ20 ⊢
   dsimp only at hMR hJ20 ⊢
   have HFB:=hid (fun W:World=>footer_bytes (segF ep l) hFR W)
   have HI:=hid (fun (W:World) h=>index_bytes W M aM M.length cM h hMR)
   have hil:=indexB_len hMR
   have HRC:=hid (fun (W:World) (a:Option Addr) (n c:Nat) h=>seg_record 2 (by decide) (indexB M) a n c W h (by omega))
   have hxl:=recB_len 2 (indexB M)
   have HFO:=hid (fun (W:World) h=>seg_footOf ep M J.length (recB 2 (indexB M)).length aM M.length cM W h hMR)
   rw[←hF] at HFO
   have hse:=hid hB
   have hfl:(footB (segF ep l)).length≤200:=by
    simp only[footB,List.length_append,trailB_len,frameB_len,blobB_len]
    have h1:=footP_len (segF ep l)
    have h2:=(varB_len (footP (segF ep l)).length).1
    omega
   have HON1:=hid (byteCells_one (recB 2 (indexB M)))
   have HON2:=hid (byteCells_one (footB (segF ep l)))
   generalize hKE:segB ep l=K at*
   have HKE:=hid hKE
   generalize footB (segF ep l)=FB at*
   generalize hFE:(segF ep l)=F at*
   obtain⟨f0,f1,f2,f3,f4,f5,f6⟩:=F
   have HFE:=hid hFE
   clear hKE hFE
   simp only[FootD.val] at HFB HFO
   generalize indexB M=IB at*
   generalize hrx:recB 2 IB=RX at*
   have HJM:=hid hJM
   clear hFR hX hF hB hrx hJM hMN hgo hMk hsi
   have y1:wr.cell? ⟨w.heap.size+1+1,1,none⟩=some (.slice aM M.length cM):=HSI.out.x.cell 1
   go_wp2_with fail
   refine (HI.out _ (rMarks.mono HSI.out.m.read fun q hq=>hq.2)).mono ?_
   rintro r w2 ⟨v2,rfl,hr2,hb2⟩
   obtain⟨a2,c2,hv2,hr2',_⟩:=sl_form hr2
   simp only[List.cons.injEq,and_true] at hv2
   subst hv2
   have HSI2:=hid (HSI.out.later hb2)
   go_wp2_with fail
   refine (HRC.out w2 a2 _ c2 (rBytes.mono hr2' fun q hq=>hq.2)).mono ?_
   rintro r w3 ⟨v3,rfl,ho3,hb3⟩
   obtain⟨a3,c3,rfl⟩:=ho3.form
   have HSI3:=hid (HSI2.out.later hb3)
   have HO3:=hid ho3
   have x3:w3.cell? ⟨w.heap.size,0,none⟩=some (.int .u64 ep):=HSI3.out.bx.cell 0
   have y3:w3.cell? ⟨w.heap.size+1+1,1,none⟩=some (.slice aM M.length cM):=HSI3.out.x.cell 1
   have z3:w3.cell? ⟨w.heap.size+1+1,0,none⟩=some (.slice aJ J.length cJ):=HSI3.out.x.cell 0
   clear ho3 hr2 hr2' y1
   go_wp2_with fail
   refine (HFO.out w3 (rMarks.mono HSI3.out.m.read fun q hq=>hq.2)).mono ?_
   rintro r w4 ⟨rfl,hb4⟩
   have HSI4:=hid (HSI3.out.later hb4)
   have HO4:=hid (own_below HO3.out hb4)
   have m0:w4.cell? ⟨w.heap.size+1+1,2,none⟩=some (.int .u64 0):=HSI4.out.x.cell 2
   have n0:w4.frozen? ⟨w.heap.size+1+1,2,none⟩=false:=HSI4.out.x.free 2
   have m1:w4.cell? ⟨w.heap.size+1+1,3,none⟩=some (.int .i64 0):=HSI4.out.x.cell 3
   have n1:w4.frozen? ⟨w.heap.size+1+1,3,none⟩=false:=HSI4.out.x.free 3
   have m2:w4.cell? ⟨w.heap.size+1+1,4,none⟩=some (.int .i64 0):=HSI4.out.x.cell 4
   have n2:w4.frozen? ⟨w.heap.size+1+1,4,none⟩=false:=HSI4.out.x.free 4
   have m3:w4.cell? ⟨w.heap.size+1+1,5,none⟩=some (.int .u64 0):=HSI4.out.x.cell 5
   have n3:w4.frozen? ⟨w.heap.size+1+1,5,none⟩=false:=HSI4.out.x.free 5
   have m4:w4.cell? ⟨w.heap.size+1+1,6,none⟩=some (.int .u64 0):=HSI4.out.x.cell 6
   have n4:w4.frozen? ⟨w.heap.size+1+1,6,none⟩=false:=HSI4.out.x.free 6
   have m5:w4.cell? ⟨w.heap.size+1+1,7,none⟩=some (.int .i64 0):=HSI4.out.x.cell 7
   have n5:w4.frozen? ⟨w.heap.size+1+1,7,none⟩=false:=HSI4.out.x.free 7
   have m6:w4.cell? ⟨w.heap.size+1+1,8,none⟩=some (.int .i64 0):=HSI4.out.x.cell 8
   have n6:w4.frozen? ⟨w.heap.size+1+1,8,none⟩=false:=HSI4.out.x.free 8
   have hz4:w.heap.size+1+1<w4.heap.size:=HSI4.out.x.lt
   clear x3 y3 z3
   go_wp2_with fail
   refine (HFB.out _).mono ?_
   rintro r w5 ⟨v5,rfl,ho5,hb5⟩
   obtain⟨a5,c5,rfl⟩:=ho5.form
   have hx4:Blk w4 (w.heap.size+1+1) 201 (.slice aJ J.length cJ:: .slice aM M.length cM::segZ).toArray:=HSI4.out.x
   have hX:=((((((((hx4).set 2 (.int .u64 f0)).set 3 (.int .i64 f1)).set 4 (.int .i64 f2)).set 5 (.int .u64 f3)).set 6 (.int .u64 f4)).set 7 (.int .i64 f5)).set 8 (.int .i64 f6)).later hb5
   have hQ:Tch (·=w.heap.size+1+1) w4 w5:=(tch7 w4 (w.heap.size+1+1) _ _ _ _ _ _ _).trans (Tch.of_later (F:=(·=w.heap.size+1+1)) hb5) fun _ _ h=>h
   simp only[segZ,List.setIfInBounds_toArray,List.set_cons_zero,List.set_cons_succ] at hX
   have hj5:w5.ownsRow (w.heap.size+3) 5 1 (.slice aJ J.length cJ) J.length (byteCells J):=own_stays HSI4.out.j fun b hv hl=>hQ.block b hl (by have:=(own_lt HSI4.out.j b hv).1;omega)
   have hs2:w.heap.size+3≤w2.heap.size:=by have:=HSI2.out.br.lt;have:=HSI2.out.x.lt;omega
   have ho5r:w5.ownsRow w2.heap.size 5 1 (.slice a3 RX.length c3) RX.length (byteCells RX):=own_stays HO4.out fun b hv hl=>hQ.block b hl (by have:=(own_lt HO4.out b hv).1;omega)
   have HS5:=hid (src_bytes (own_bytes rfl ho5r))
   have hr5:Blk w5 (w.heap.size+1) 201 (.slice none 0 0:: .slice none 0 0::segZ).toArray:=HSI4.out.br.tch hQ (by omega)
   have hb05:Below w.heap.size w w5:=HSI4.out.below.trans (hQ.to_below HSI4.out.below.size fun b _ e=>by omega)
   have hfb:rBytes.r (fun q=>w4.heap.size≤q∧q<w5.heap.size) w5 [.slice a5 FB.length c5] FB:=rBytes.mono ho5.read fun q hq=>⟨by have:=hq.1;simpa using this,hq.2⟩
   have hz45:=hQ.size
   have HJ5:=hid hj5
   have HQ:=hid hQ
   have HJ4:=hid HSI4.out.j
   have HX5:=hid hX
   have HR5:=hid hr5
   have HFBR:=hid hfb
   have HB05:=hid hb05
   have hz15:=hb05.size
   have hz05:w.heap.size+3≤w5.heap.size:=by have:=hX.lt;omega
   clear hj5 ho5r hX hr5 hfb hQ hx4 ho5 hb5 hb05
   clear m0 n0 m1 n1 m2 n2 m3 n3 m4 n4 m5 n5 m6 n6
   have x0:w5.cell? ⟨w.heap.size+1+1,0,none⟩=some (.slice aJ J.length cJ):=HX5.out.cell 0
   go_wp2_with (first | (at_builtin;(refine wpList_append_src rfl _ _ _ rfl (w.heap.size+3) 5 i0 (.int .u8 0) 1 1 Tryz.underlying22 hi hz0 hz1 hz2 rfl (by decide) (.slice aJ J.length cJ) J.length (byteCells J) rfl HJ5.out a3 RX.length c3 (byteCells RX) rfl HS5.out HON1.out (by simp only[maxLen];omega) (by omega) (by omega) ?_;intro v6 w6 hown6 hgrow6 hat6;obtain⟨a6,c6,rfl⟩:=own_form hown6;have HG6:=hid hgrow6;have HO6:=hid hown6;have HS6:=hid (src_bytes (rBytes.mono (S':=(·<w6.heap.size)) (rBytes.keep HFBR.out fun q hq=>hgrow6.block q hq.2 (fun e=>by have h9:=(own_lt HJ4.out q e.symm).2;have h8:=hq.1;omega)) fun q hq=>Nat.lt_of_lt_of_le hq.2 hgrow6.size));have hz6:=hgrow6.size;have HA6:=hid hat6;clear hgrow6 hown6 hat6)) | (at_builtin;(refine wpList_append_src rfl _ _ _ rfl (w.heap.size+3) 5 i0 (.int .u8 0) 1 1 Tryz.underlying22 hi hz0 hz1 hz2 rfl (by decide) (.slice a6 (J.length+RX.length) c6) (J.length+RX.length) (byteCells J++byteCells RX) rfl HO6.out a5 FB.length c5 (byteCells FB) rfl HS6.out HON2.out (by simp only[maxLen];omega) (by omega) (by omega) ?_;intro v7 w7 hown7 hgrow7 hat7;obtain⟨a7,c7,rfl⟩:=own_form hown7;have HX7:=hid ((HX5.out.grown HG6.out (fun e=>SegI.far HJ5.out (by omega) e.symm)).grown hgrow7 (fun e=>SegI.far HO6.out (by omega) e.symm));have HR7:=hid ((HR5.out.grown HG6.out (fun e=>SegI.far HJ5.out (by omega) e.symm)).grown hgrow7 (fun e=>SegI.far HO6.out (by omega) e.symm));have HB7:=hid ((HB05.out.grown HG6.out hz15 (fun g e=>by have:=(own_lt HJ5.out g e).1;omega)).grown hgrow7 (by omega) (fun g e=>by have:=(own_lt HO6.out g e).1;omega));have HO7:=hid hown7;have HG7:=hid hgrow7;clear hgrow7 hown7 hat7;have p0:w7.cell? ⟨w.heap.size+1+1,0,none⟩=some (.slice aJ J.length cJ):=HX7.out.cell 0;have q0:w7.cell? ⟨w.heap.size+1,0,none⟩=some (.slice none 0 0):=HR7.out.cell 0;have r0:=HR7.out.free 0;have p1:w7.cell? ⟨w.heap.size+1+1,1,none⟩=some (.slice aM M.length cM):=HX7.out.cell 1;have q1:w7.cell? ⟨w.heap.size+1,1,none⟩=some (.slice none 0 0):=HR7.out.cell 1;have r1:=HR7.out.free 1;have p2:w7.cell? ⟨w.heap.size+1+1,2,none⟩=some (.int .u64 f0):=HX7.out.cell 2;have q2:w7.cell? ⟨w.heap.size+1,2,none⟩=some (.int .u64 0):=HR7.out.cell 2;have r2:=HR7.out.free 2;have p3:w7.cell? ⟨w.heap.size+1+1,3,none⟩=some (.int .i64 f1):=HX7.out.cell 3;have q3:w7.cell? ⟨w.heap.size+1,3,none⟩=some (.int .i64 0):=HR7.out.cell 3;have r3:=HR7.out.free 3;have p4:w7.cell? ⟨w.heap.size+1+1,4,none⟩=some (.int .i64 f2):=HX7.out.cell 4;have q4:w7.cell? ⟨w.heap.size+1,4,none⟩=some (.int .i64 0):=HR7.out.cell 4;have r4:=HR7.out.free 4;have p5:w7.cell? ⟨w.heap.size+1+1,5,none⟩=some (.int .u64 f3):=HX7.out.cell 5;have q5:w7.cell? ⟨w.heap.size+1,5,none⟩=some (.int .u64 0):=HR7.out.cell 5;have r5:=HR7.out.free 5;have p6:w7.cell? ⟨w.heap.size+1+1,6,none⟩=some (.int .u64 f4):=HX7.out.cell 6;have q6:w7.cell? ⟨w.heap.size+1,6,none⟩=some (.int .u64 0):=HR7.out.cell 6;have r6:=HR7.out.free 6;have p7:w7.cell? ⟨w.heap.size+1+1,7,none⟩=some (.int .i64 f5):=HX7.out.cell 7;have q7:w7.cell? ⟨w.heap.size+1,7,none⟩=some (.int .i64 0):=HR7.out.cell 7;have r7:=HR7.out.free 7;have p8:w7.cell? ⟨w.heap.size+1+1,8,none⟩=some (.int .i64 f6):=HX7.out.cell 8;have q8:w7.cell? ⟨w.heap.size+1,8,none⟩=some (.int .i64 0):=HR7.out.cell 8;have r8:=HR7.out.free 8;have px:=HX7.out.free 0;have hz7:w.heap.size+1+1<w7.heap.size:=HX7.out.lt)))
   have hT:=tch10 w7 (w.heap.size+1+1) (w.heap.size+1) (.slice a7 (J.length+RX.length+FB.length) c7) (.slice a7 (J.length+RX.length+FB.length) c7) (.slice aM M.length cM) (.int .u64 f0) (.int .i64 f1) (.int .i64 f2) (.int .u64 f3) (.int .u64 f4) (.int .i64 f5) (.int .i64 f6)
   have hO:OwnB w7 (w.heap.size+3) (.slice a7 (J.length+RX.length+FB.length) c7) K:=by
    rw[hse.out]
    unfold OwnB
    rw[List.length_append,List.length_append,←byteCells_app,←byteCells_app]
    exact HO7.out
   refine bodyPost_ret (v:=.agg #[.slice a7 (J.length+RX.length+FB.length) c7,.slice aM M.length cM,.int .u64 f0,.int .i64 f1,.int .i64 f2,.int .u64 f3,.int .u64 f4,.int .i64 f5,.int .i64 f6]) (by simp[results,Tryz.results128,go_sem,World.cell?_setCell_far,q0,q1,q2,q3,q4,q5,q6,q7,q8]) rfl ?_
   refine⟨_,_,by rw[HFE.out],?_,?_,HB7.out.trans (hT.to_below HB7.out.size fun b _ e=>by omega)⟩
   ·rw[HKE.out]
    exact rBytes.mono (rBytes.keep hO.read fun b hb=>hT.block b hb.2 (by have:=hb.1;omega)) fun b hb=>⟨by have:=hb.1;omega,Nat.lt_of_lt_of_le hb.2 hT.size⟩
   ·have hml:∀q,(Value.slice aM M.length cM).ownBlock=some q→w.heap.size+3≤q∧q<w4.heap.size:=fun q e=>own_lt HSI4.out.m.own q e
    have hs7:=HG7.out.size
    rw[HJM.out]
    show rMarks.r _ _ _ M
    refine rMarks.mono (rMarks.keep HSI4.out.m.row fun q e=> ?_) fun q e=>⟨by have:=hml q e;omega,by have:=hml q e;have:=hT.size;omega⟩
    have h1:=hml q e
    have n1:(Value.slice aJ J.length cJ).ownBlock≠some q:=fun e2=>HSI4.out.ne q e2 e
    have n2:(Value.slice a6 (J.length+RX.length) c6).ownBlock≠some q:=fun e2=>by
     rcases HA6.out with h | h
     ·exact n1 (h.symm.trans e2)
     ·have:=Option.some.inj (e2.symm.trans h);omega
    exact (hT.block q (by omega) (by omega)).trans ((HG7.out.block q (by omega) (fun e3=>n2 e3.symm)).trans ((HG6.out.block q (by omega) (fun e3=>n1 e3.symm)).trans (HQ.out.block q h1.2 (by omega))))
theorem segment_bytes(ep:Int)(l:List Batch)(a:Option Addr)(n c:Nat)(w:World)(h0:0≤ep∧ep≤18446744073709551615)(hl:rBatches.r (·<w.heap.size) w [.slice a n c] l)(hbn:∀b∈l,batchN b)(htm:∀b∈l,TameE b.entries):
  Calls Tryz.prog 52 #[.agg #[.int .u64 ep,.slice a n c]] w fun r w'=>∃v,r=.returned (.tuple #[v,.int .i64 (if segR ⟨ep,l⟩=true then 0 else 3)])∧rBytes.r (fun q=>w.heap.size≤q∧q<w'.heap.size) w' [v] (if segR ⟨ep,l⟩=true then segB ep l else [])∧Below w.heap.size w w':=by
 obtain⟨rfl,hm,_,_⟩:=sl_len hl
 have HR:=hid (fun (W:World) (hW:Below w.heap.size w W)=>segment_right ep l a _ c W h0 (lift hl hW) (fun x hx=>(htm x hx).fair))
 have HL:=hid hl
 have kf:=written_b
 clear hl
 cases hs:segR ⟨ep,l⟩
 ·rw[hs] at HR
  simp only[Bool.false_eq_true,if_false]
  clear hs
  go_enter Tryz.func52,Tryz.ntmps52
  go_wp2_with fail
  refine (HR.out _ (by (repeat (first | exact Below.refl _ _ | assumption | (refine below_alloc ?_ _) | (refine Below.setCell ?_ (by first | omega | (simp;done) | (simp;omega)) _) | (refine Below.drew ?_) | (refine below_drewN ?_ _) | (refine below_then (by assumption) ?_))))).mono ?_
  rintro r w1 ⟨rfl,hb1⟩
  have hbw:Below w.heap.size w w1:=by (repeat (first | exact Below.refl _ _ | assumption | (refine below_alloc ?_ _) | (refine Below.setCell ?_ (by first | omega | (simp;done) | (simp;omega)) _) | (refine Below.drew ?_) | (refine below_drewN ?_ _) | (refine below_then (by assumption) ?_)))
  go_wp2
  go_ret2
  exact⟨_,rfl,rSl_mk (xs:=[]) rfl (Nat.le_refl _) (Nat.zero_le _) (.inl rfl),hbw⟩
 ·rw[hs] at HR
  simp only[if_true]
  have HW:=hid (fun (W:World) (hW:Below w.heap.size w W)=>seg_write ep l a _ c W (lift HL.out hW) hs hbn htm)
  clear hs
  go_enter Tryz.func52,Tryz.ntmps52
  go_wp2_with fail
  refine (HR.out _ (by (repeat (first | exact Below.refl _ _ | assumption | (refine below_alloc ?_ _) | (refine Below.setCell ?_ (by first | omega | (simp;done) | (simp;omega)) _) | (refine Below.drew ?_) | (refine below_drewN ?_ _) | (refine below_then (by assumption) ?_))))).mono ?_
  rintro r w1 ⟨rfl,hb1⟩
  have hB:=(Blk.new w 28 #[.int .u64 ep,.slice a l.length c]).later hb1
  have c0:w1.cell? ⟨w.heap.size,0,none⟩=some (.int .u64 ep):=hB.cell 0
  have c1:w1.cell? ⟨w.heap.size,1,none⟩=some (.slice a l.length c):=hB.cell 1
  have hbw:Below w.heap.size w w1:=by (repeat (first | exact Below.refl _ _ | assumption | (refine below_alloc ?_ _) | (refine Below.setCell ?_ (by first | omega | (simp;done) | (simp;omega)) _) | (refine Below.drew ?_) | (refine below_drewN ?_ _) | (refine below_then (by assumption) ?_)))
  clear hB
  go_wp2_with fail
  refine (HW.out w1 hbw).mono ?_
  rintro r w2 ⟨v,u,rfl,hr,_,hb2⟩
  obtain⟨a2,c2,hv2,hr2,_⟩:=sl_form hr
  simp only[List.cons.injEq,and_true] at hv2
  subst hv2
  have HV:=hid hr2
  clear hr hr2
  go_wp2
  go_ret2
  exact⟨_,rfl,rBytes.mono HV.out fun q hq=>⟨by have:=hbw.size;omega,hq.2⟩,below_then hb2 hbw⟩
theorem frameB_low(P:List UInt8):5≤(frameB P).length:=by
 have:=(varB_len P.length).2
 rw[frameB_len,blobB_len]
 omega
structure PayJ(w:World)(B:List UInt8)(a:Option Addr)(c g:Nat)(s:Rs)(W:World):Prop where
 cb:Blk W g 123 #[.slice a B.length c,.int .i64 (s.p:Int),.int .i64 s.k,.int .i64 s.f]
 mb:Blk W w.heap.size 57 zeroCells
 fb:Blk W (w.heap.size+1) 31 #[.int .i64 0,.int .i64 0]
 bl:Below w.heap.size w W
 ok:s.ok B.length
 lg:w.heap.size+1<g
section
variable {w W W':World} {B:List UInt8} {a:Option Addr} {c g:Nat} {s s':Rs}
theorem set4_tch:Tch (·=g) W ((((W.setCell ⟨g,0,none⟩ (.slice a B.length c)).setCell ⟨g,1,none⟩ (.int .i64 (s'.p:Int))).setCell ⟨g,2,none⟩ (.int .i64 s'.k)).setCell ⟨g,3,none⟩ (.int .i64 s'.f)):=
 Tch.setCell (F:=(·=g)) (p:=⟨g,3,none⟩) (Tch.setCell (F:=(·=g)) (p:=⟨g,2,none⟩) (Tch.setCell (F:=(·=g)) (p:=⟨g,1,none⟩) (Tch.setCell (F:=(·=g)) (p:=⟨g,0,none⟩) (Tch.refl _ _) (fun _=>rfl) _) (fun _=>rfl) _) (fun _=>rfl) _) (fun _=>rfl) _
theorem PayJ.row(h:PayJ w B a c g s W)(hb:Below W.heap.size W W'):PayJ w B a c g s W':=
 ⟨h.cb.later hb,h.mb.later hb,h.fb.later hb,below_then hb h.bl,h.ok,h.lg⟩
theorem PayJ.set(h:PayJ w B a c g s W)(ok:s'.ok B.length):PayJ w B a c g s' ((((W.setCell ⟨g,0,none⟩ (.slice a B.length c)).setCell ⟨g,1,none⟩ (.int .i64 (s'.p:Int))).setCell ⟨g,2,none⟩ (.int .i64 s'.k)).setCell ⟨g,3,none⟩ (.int .i64 s'.f)):=by
 have hl:=h.lg
 exact⟨(((h.cb.set 0 _).set 1 _).set 2 _).set 3 _,h.mb.tch set4_tch (by omega),h.fb.tch set4_tch (by omega),h.bl.trans (set4_tch.to_below h.bl.size fun b hb e=>by omega),ok,h.lg⟩
end
structure Ev where
 kind:Int
 at_:Int
 code:Int
 msg:Msg
 deriving DecidableEq
structure PSt where
 buf:List UInt8
 first:Nat
 fed:Nat
 need:Nat
 ended:Int
theorem least(P:Nat→Prop)[DecidablePred P]:∀n,P n→∃j,j≤n∧P j∧∀i,i<j→¬P i
 | 0,h=>⟨0,Nat.le_refl _,h,fun i hi=>absurd hi (Nat.not_lt_zero _)⟩
 | n+1,h=>by
  by_cases hq:∃i,i≤n∧P i
  ·obtain⟨i,hi,hp⟩:=hq
   obtain⟨j,h1,h2,h3⟩:=least P i hp
   exact⟨j,by omega,h2,h3⟩
  ·exact⟨n+1,Nat.le_refl _,h,fun i hi hp=>hq ⟨i,by omega,hp⟩⟩
structure Rs.fit(s:Rs)(L:Nat):Prop where
 ok:s.ok L
 inn:s.inn L
theorem Rs.fail_fit{s t:Rs}{L:Nat}(h:t.fit L){c:Int}(hs:s.fit L)(hc:c≠0):(t.fail c s.p).fit L:=⟨Rs.fail_ok h.ok hc,Rs.fail_in h.inn (by omega) (by have:=hs.ok.le;omega)⟩
variable {B:List UInt8} {s:Rs}
theorem Rs.num_fit(h:s.fit B.length):(s.num B).1.fit B.length:=⟨Rs.num_ok h.ok,Rs.num_in h.ok h.inn⟩
theorem Rs.take_fit(h:s.fit B.length)(n:Int):(s.take B n).1.fit B.length:=⟨Rs.take_ok h.ok n,Rs.skip_in h.ok h.inn n⟩
theorem Rs.byte_fit(h:s.fit B.length):(s.byte B).1.fit B.length:=⟨Rs.byte_ok h.ok,Rs.skip_in h.ok h.inn 1⟩
theorem Rs.most_fit(h:s.fit B.length){m:Nat}:(s.most B m).1.fit B.length:=by
 unfold Rs.most;split
 ·exact Rs.fail_fit (Rs.num_fit h) h (by omega)
 ·exact Rs.num_fit h
theorem Rs.int_fit(h:s.fit B.length){m:Int}:(s.int B m).1.fit B.length:=by
 unfold Rs.int;split
 ·exact Rs.most_fit h
 ·exact Rs.fail_fit (Rs.num_fit h) h (by omega)
theorem Rs.blob_fit(h:s.fit B.length)(m:Int):(s.blob B m).1.fit B.length:=Rs.take_fit (Rs.int_fit h) _
theorem Rs.blob_room(h:s.ok B.length){m:Int}:((s.blob B m).2.length:Int)≤(s.blob B m).1.p:=by
 have h1:=Rs.int_ok h (m:=m)
 have h2:=h1.le
 unfold Rs.blob
 generalize (s.int B m).1=u at*
 generalize ((s.int B m).2:Int)=n
 unfold Rs.take
 cases hk:(u.skip B.length n).1
 ·simp
 ·have h3:=Rs.skip_true hk
  rw[h3.2.2.2]
  dsimp only
  rw[if_pos rfl,List.length_take]
  omega
theorem Rs.unp_fit(h:s.fit B.length)(n:Nat):(s.unp B n).1.fit B.length:=by
 have hb:=Rs.blob_fit h 1048576
 have hr:=Rs.blob_room h.ok (m:=1048576)
 have hx:=exB_facts (s.blob B 1048576).2 n
 have hle:=hb.ok.le
 unfold Rs.unp
 split
 ·split
  ·split
   ·exact Rs.fail_fit hb hb (by omega)
   ·exact hb
  ·exact⟨Rs.fail_ok hb.ok (by assumption),Rs.fail_in hb.inn (by omega) (by omega)⟩
 ·exact hb
theorem Rs.loose_fit(h:s.fit B.length)(most:Int):(s.loose B most).1.fit B.length:=by
 have hb:=Rs.byte_fit (B:=B) (Rs.int_fit h (m:=min most 1048576))
 have hp:((s.int B (min most 1048576)).1.byte B).1.k=0→1≤((s.int B (min most 1048576)).1.byte B).1.p:=fun h0=>by
  unfold Rs.byte at h0 ⊢
  cases hk:((s.int B (min most 1048576)).1.skip B.length 1).1
  ·exact absurd h0 (Rs.skip_false hk).1
  ·rw[(Rs.skip_true hk).2.2.2]
   dsimp only
   omega
 unfold Rs.loose
 split
 ·rename_i h0
  split
  ·split
   ·exact Rs.take_fit hb _
   ·exact Rs.take_fit hb _
  ·split
   ·split
    ·exact Rs.unp_fit hb _
    ·exact Rs.unp_fit hb _
   ·have:=hp h0
    have:=hb.ok.le
    exact⟨Rs.fail_ok hb.ok (by omega),Rs.fail_in hb.inn (by omega) (by omega)⟩
 ·exact hb
theorem blkS_fit(h:s.fit B.length):(blkS B s).1.fit B.length:=by
 have hl:=Rs.loose_fit h 1048576
 unfold blkS Rs.strict
 dsimp only
 split
 ·split
  ·exact hl
  ·exact Rs.fail_fit hl hl (by omega)
 ·exact hl
theorem Rs.fin_fit(h:s.fit B.length):(s.fin B.length).fit B.length:=by
 unfold Rs.fin
 split
 ·exact Rs.fail_fit h h (by omega)
 ·exact h
theorem Rs.ep_fit(h:s.fit B.length):(s.ep B).1.fit B.length:=by
 have h2:=Rs.num_fit h
 unfold Rs.ep
 split
 ·split
  ·exact h2
  ·exact Rs.fail_fit h2 h (by omega)
 ·exact h2
theorem Rs.po_fit(h:s.fit B.length):(s.po B).1.fit B.length:=by
 have h2:=Rs.num_fit h
 unfold Rs.po
 split
 ·split
  ·exact h2
  ·exact Rs.fail_fit h2 h (by omega)
 ·exact h2
theorem Rs.falls_fit{B:List UInt8}:∀(n:Nat) (s:Rs) (below:Int) (out:List Int),s.fit B.length→(Rs.falls B n s below out).1.fit B.length
 | 0,s,below,out,h=>h
 | n+1,s,below,out,h=>by
  have h2:=Rs.num_fit (B:=B) h
  simp only[Rs.falls]
  split
  ·split
   ·exact Rs.fail_fit h2 h (by omega)
   ·exact Rs.falls_fit n _ _ _ h2
  ·exact h2
theorem Rs.stream_fit{prev:Option Int}(h:s.fit B.length):(s.stream B prev).1.fit B.length:=by
 unfold Rs.stream
 cases prev with
 | none=>exact Rs.num_fit h
 | some q=>
  dsimp only
  split
  ·exact Rs.fail_fit (Rs.num_fit h) h (by omega)
  ·exact Rs.num_fit h
theorem Rs.linksF_fit{B:List UInt8}{pos:Int}:∀(n:Nat) (s:Rs) (prev:Option Int) (out:List Link),s.fit B.length→(Rs.linksF B pos n s prev out).1.fit B.length
 | 0,s,prev,out,h=>h
 | n+1,s,prev,out,h=>by
  have h2:((s.stream B prev).1.delta B pos 4).1.fit B.length:=Rs.falls_fit _ _ _ _ (Rs.int_fit (Rs.stream_fit h))
  simp only[Rs.linksF]
  split
  ·exact Rs.linksF_fit n _ _ _ h2
  ·exact h2
theorem Rs.zero_fit(L:Nat):(⟨0,0,0⟩:Rs).fit L:=⟨⟨Nat.zero_le _,fun _=>rfl⟩,⟨by simp,by simp⟩⟩
theorem Rs.frame_fit(h:s.fit B.length)(m:Int):(s.frame B m).1.fit B.length:=by
 have h1:=Rs.blob_fit h (min m 2097152)
 have h2:=Rs.take_fit h1 4
 unfold Rs.frame
 dsimp only
 split
 ·exact h2
 ·exact Rs.fail_fit h2 h1 (by omega)
theorem Rs.take_canon{B:List UInt8}{s:Rs}{n:Int}(h:(s.take B n).1.k=0):B.drop s.p=(s.take B n).2++B.drop (s.take B n).1.p∧(s.take B n).1.p=s.p+n.toNat∧((s.take B n).2.length=n.toNat):=by
 have h0:=(Rs.take_more h).2.2
 unfold Rs.take at h h0 ⊢
 cases hk:(s.skip B.length n).1
 ·exact absurd h (Rs.skip_false hk).1
 ·have h3:=Rs.skip_true hk
  rw[hk] at h0
  rw[h3.2.2.2]
  refine⟨?_,rfl,h0⟩
  dsimp only
  rw[if_pos rfl,←List.drop_drop,List.take_append_drop]
def Rs.marksF(B:List UInt8):Nat→Rs→Int→Int→List MarkD→Rs × List MarkD
 | 0,s,_,_,out=>(s,out)
 | n+1,s,pos,a,out=>
  let x:=s.num B
  let c:=x.1.int B 16
  let o:=c.1.int B 1099511627775
  let m:MarkD:=⟨pos+(x.2:Int),(c.2:Int),a+1+(o.2:Int)⟩
  if o.1.k=0 then (if fitsM m pos a=true then Rs.marksF B n o.1 (m.pos+m.count) m.at_ (out++[m]) else (o.1.fail 3 s.p,[])) else (o.1,[])
def Rs.marks_(B:List UInt8)(s:Rs):Rs × List MarkD:=Rs.marksF B (s.int B 16).2 (s.int B 16).1 0 0 []
theorem Rs.marksF_succ(B:List UInt8)(n:Nat)(s:Rs)(pos a:Int)(out:List MarkD):Rs.marksF B (n+1) s pos a out=
  (if (((s.num B).1.int B 16).1.int B 1099511627775).1.k=0 then (if fitsM ⟨pos+((s.num B).2:Int),(((s.num B).1.int B 16).2:Int),a+1+((((s.num B).1.int B 16).1.int B 1099511627775).2:Int)⟩ pos a=true then
   Rs.marksF B n (((s.num B).1.int B 16).1.int B 1099511627775).1 (pos+((s.num B).2:Int)+(((s.num B).1.int B 16).2:Int)) (a+1+((((s.num B).1.int B 16).1.int B 1099511627775).2:Int)) (out++[⟨pos+((s.num B).2:Int),(((s.num B).1.int B 16).2:Int),a+1+((((s.num B).1.int B 16).1.int B 1099511627775).2:Int)⟩])
   else ((((s.num B).1.int B 16).1.int B 1099511627775).1.fail 3 s.p,[])) else ((((s.num B).1.int B 16).1.int B 1099511627775).1,[])):=rfl
theorem Rs.marksF_fit{B:List UInt8}:∀(n:Nat) (s:Rs) (pos a:Int) (out:List MarkD),s.fit B.length→(Rs.marksF B n s pos a out).1.fit B.length
 | 0,s,pos,a,out,h=>h
 | n+1,s,pos,a,out,h=>by
  have h3:=Rs.int_fit (m:=1099511627775) (Rs.int_fit (m:=16) (Rs.num_fit h))
  rw[Rs.marksF_succ]
  split
  ·split
   ·exact Rs.marksF_fit n _ _ _ _ h3
   ·exact Rs.fail_fit h3 h (by omega)
  ·exact h3
theorem Rs.marks_fit{B:List UInt8}{s:Rs}(h:s.fit B.length):(s.marks_ B).1.fit B.length:=Rs.marksF_fit _ _ _ _ _ (Rs.int_fit h)
theorem Rs.marksF_canon{B:List UInt8}:∀(n:Nat) (s:Rs) (pos a:Int) (out:List MarkD),s.ok B.length→(Rs.marksF B n s pos a out).1.k=0→
  ∃t,(Rs.marksF B n s pos a out).2=out++t∧t.length=n∧riseM pos a t=true∧B.drop s.p=marksB pos a t++B.drop (Rs.marksF B n s pos a out).1.p∧s.k=0
 | 0,s,pos,a,out,hs,h=>⟨[],by simp[Rs.marksF],rfl,rfl,rfl,h⟩
 | n+1,s,pos,a,out,hs,h=>by
  have ok1:=Rs.num_ok (B:=B) hs
  have ok2:=Rs.int_ok (B:=B) ok1 (m:=16)
  have ok3:=Rs.int_ok (B:=B) ok2 (m:=1099511627775)
  have c1:=Rs.num_canon (B:=B) hs
  have c2:=Rs.int_canon (B:=B) (m:=16) ok1
  have c3:=Rs.int_canon (B:=B) (m:=1099511627775) ok2
  have m1:=fun h=>(Rs.num_more (B:=B) (s:=s) h).2
  rw[Rs.marksF_succ] at h ⊢
  generalize s.num B=x at*
  obtain⟨x1,x⟩:=x
  dsimp only at*
  generalize x1.int B 16=c at*
  obtain⟨cs,c⟩:=c
  dsimp only at*
  generalize cs.int B 1099511627775=o at*
  obtain⟨os,o⟩:=o
  dsimp only at*
  by_cases hk:os.k=0
  ·rw[if_pos hk] at h ⊢
   obtain⟨d3,e3,f3⟩:=c3 hk
   obtain⟨d2,e2,f2⟩:=c2 f3
   obtain⟨d1,e1⟩:=c1 f2
   by_cases hf:fitsM ⟨pos+(x:Int),(c:Int),a+1+(o:Int)⟩ pos a=true
   ·rw[if_pos hf] at h ⊢
    obtain⟨t,i1,i2,i3,i4,i5⟩:=Rs.marksF_canon n os _ _ _ ok3 h
    refine⟨⟨pos+(x:Int),(c:Int),a+1+(o:Int)⟩::t,by rw[i1,List.append_assoc];rfl,by rw[List.length_cons,i2],?_,?_,m1 f2⟩
    ·unfold riseM
     rw[hf]
     exact i3
    ·unfold marksB
     dsimp only
     rw[show (pos+(x:Int)-pos).toNat=x by omega,show ((c:Int)).toNat=c by omega,show (a+1+(o:Int)-a-1).toNat=o by omega,d1,d2,d3,i4]
     simp only[List.append_assoc]
   ·rw[if_neg hf] at h
    exact absurd h (Rs.fail_k (by omega))
  ·rw[if_neg hk] at h
   exact absurd h hk
theorem Rs.marks_canon{B:List UInt8}{s:Rs}(hs:s.ok B.length)(h:(s.marks_ B).1.k=0):marksR (s.marks_ B).2=true∧B.drop s.p=indexB (s.marks_ B).2++B.drop (s.marks_ B).1.p:=by
 unfold Rs.marks_ at h ⊢
 obtain⟨t,i1,i2,i3,i4,i5⟩:=Rs.marksF_canon _ _ _ _ _ (Rs.int_ok hs) h
 obtain⟨c1,c2,_⟩:=Rs.int_canon (B:=B) (m:=16) hs i5
 rw[i1,List.nil_append]
 refine⟨?_,?_⟩
 ·unfold marksR
  rw[i3,Bool.true_and,decide_eq_true_eq]
  omega
 ·unfold indexB
  rw[i2,c1,i4,List.append_assoc]
theorem marksB_cons(p a:Int)(m:MarkD)(l:List MarkD):marksB p a (m::l)=varB (m.pos-p).toNat++(varB m.count.toNat++(varB (m.at_-a-1).toNat++marksB (m.pos+m.count) m.at_ l)):=rfl
theorem Rs.marksF_put{B:List UInt8}:∀(t:List MarkD) (p:Nat) (pos a:Int) (out:List MarkD) (rest:List UInt8),0≤pos→0≤a→riseM pos a t=true→B.drop p=marksB pos a t++rest→p≤B.length→
  Rs.marksF B t.length ⟨p,0,0⟩ pos a out=(⟨p+(marksB pos a t).length,0,0⟩,out++t)
 | [],p,pos,a,out,rest,h1,h2,hr,h,hp=>by simp[Rs.marksF,marksB]
 | m::t,p,pos,a,out,rest,h1,h2,hr,h,hp=>by
  unfold riseM at hr
  simp only[Bool.and_eq_true] at hr
  obtain⟨hf,hr⟩:=hr
  obtain⟨f1,f2,f3,f4,f5,f6,f7⟩:=fitsM_facts hf
  unfold marksB at h
  rw[List.append_assoc,List.append_assoc,List.append_assoc] at h
  have n1:=Rs.num_varB (x:=(m.pos-pos).toNat) (by omega) h
  have d1:=drop_more h
  have r1:=drop_room h hp
  have n2:=Rs.int_pre (x:=m.count.toNat) (m:=16) (by omega) d1 (by omega)
  have d2:=drop_more d1
  have r2:=drop_room d1 (by omega)
  have n3:=Rs.int_pre (x:=(m.at_-a-1).toNat) (m:=1099511627775) (by omega) d2 (by omega)
  have d3:=drop_more d2
  have r3:=drop_room d2 (by omega)
  have ih:=Rs.marksF_put t _ (m.pos+m.count) m.at_ (out++[m]) rest (by omega) (by omega) hr d3 (by omega)
  have em:(⟨pos+((m.pos-pos).toNat:Int),(m.count.toNat:Int),a+1+((m.at_-a-1).toNat:Int)⟩:MarkD)=m:=by
   have e1:pos+((m.pos-pos).toNat:Int)=m.pos:=by omega
   have e2:(m.count.toNat:Int)=m.count:=by omega
   have e3:a+1+((m.at_-a-1).toNat:Int)=m.at_:=by omega
   rw[e1,e2,e3]
  rw[List.length_cons,Rs.marksF_succ,n1]
  dsimp only
  rw[n2]
  dsimp only
  rw[n3]
  dsimp only
  rw[if_pos rfl,em,if_pos hf,show pos+((m.pos-pos).toNat:Int)+(m.count.toNat:Int)=m.pos+m.count by omega,show a+1+((m.at_-a-1).toNat:Int)=m.at_ by omega,ih]
  rw[marksB_cons,List.append_assoc,List.length_append,List.length_append,List.length_append,show p+(varB (m.pos-pos).toNat).length+(varB m.count.toNat).length+(varB (m.at_-a-1).toNat).length+(marksB (m.pos+m.count) m.at_ t).length=p+((varB (m.pos-pos).toNat).length+((varB m.count.toNat).length+((varB (m.at_-a-1).toNat).length+(marksB (m.pos+m.count) m.at_ t).length))) by omega]
  rfl
theorem Rs.marks_put{B rest:List UInt8}{p:Nat}{l:List MarkD}(hR:marksR l=true)(h:B.drop p=indexB l++rest)(hp:p≤B.length):(⟨p,0,0⟩:Rs).marks_ B=(⟨p+(indexB l).length,0,0⟩,l):=by
 unfold marksR at hR
 simp only[Bool.and_eq_true,decide_eq_true_eq] at hR
 obtain⟨hr,hl⟩:=hR
 unfold indexB at h ⊢
 rw[List.append_assoc] at h
 have n1:=Rs.int_pre (x:=l.length) (m:=16) (by omega) h (by omega)
 have d1:=drop_more h
 have r1:=drop_room h hp
 unfold Rs.marks_
 rw[n1]
 dsimp only
 rw[Rs.marksF_put l _ 0 0 [] rest (by omega) (by omega) hr d1 (by omega),List.nil_append,List.length_append,Nat.add_assoc]
def footRb(f:FootD):Bool:=epR f.ep&&decide (0≤f.n∧f.n≤16∧f.n≤f.en∧f.en≤f.n*16∧1≤f.at_∧f.at_≤1099511627775∧1≤f.size∧f.size≤2097152∧
 (if f.n=0 then f.first=0∧f.fin=0 else 0≤f.first∧f.first<f.fin∧f.fin≤4611686018427387904∧f.en≤f.fin-f.first))
theorem footRb_iff{f:FootD}:footRb f=true↔FootR f:=by
 unfold footRb
 rw[Bool.and_eq_true,decide_eq_true_eq]
 exact⟨fun ⟨h0,h1,h2,h3,h4,h5,h6,h7,h8,h9⟩=>⟨h0,h1,h2,h3,h4,h5,h6,h7,h8,h9⟩,fun ⟨h0,h1,h2,h3,h4,h5,h6,h7,h8,h9⟩=>⟨h0,h1,h2,h3,h4,h5,h6,h7,h8,h9⟩⟩
def footZ0:FootD:=⟨0,0,0,0,0,0,0⟩
def footS(P:List UInt8):Rs × FootD:=
 let b:=(⟨0,0,0⟩:Rs).byte P
 let e:=(if b.2=3 then b.1 else b.1.fail 7 0).ep P
 let n:=e.1.int P 65536
 let m:=n.1.int P 65536
 let f:=m.1.num P
 let g:=f.1.num P
 let a:=g.1.int P 1099511627776
 let z:=a.1.int P 1099511627776
 (z.1,⟨(e.2:Int),(n.2:Int),(m.2:Int),(f.2:Int),(g.2:Int),(a.2:Int),(z.2:Int)⟩)
def footE(P:List UInt8):Rs:=(if footRb (footS P).2=true then (footS P).1 else (footS P).1.fail 3 0).fin P.length
def footRd(P:List UInt8):FootD × Int × Int:=if (footE P).k=0 then ((footS P).2,0,0) else (footZ0,(footE P).k,(footE P).f)
theorem footS_fit(P:List UInt8):(footS P).1.fit P.length:=by
 have h0:=Rs.zero_fit P.length
 have h1:=Rs.byte_fit (B:=P) h0
 unfold footS
 dsimp only
 generalize (⟨0,0,0⟩:Rs).byte P=U at*
 have h2:(if U.2=3 then U.1 else U.1.fail 7 0).fit P.length:=by
  split
  ·exact h1
  ·exact Rs.fail_fit (s:=⟨0,0,0⟩) h1 h0 (by omega)
 exact Rs.int_fit (Rs.int_fit (Rs.num_fit (Rs.num_fit (Rs.int_fit (Rs.int_fit (Rs.ep_fit h2))))))
theorem footE_fit(P:List UInt8):(footE P).fit P.length:=by
 have h0:=Rs.zero_fit P.length
 have h1:=footS_fit P
 unfold footE
 refine Rs.fin_fit ?_
 split
 ·exact h1
 ·exact Rs.fail_fit (s:=⟨0,0,0⟩) h1 h0 (by omega)
theorem footRd_in(P:List UInt8):0≤(footRd P).2.2∧(footRd P).2.2≤P.length:=by
 unfold footRd
 split
 ·exact⟨Int.le_refl _,Int.natCast_nonneg _⟩
 ·exact (footE_fit P).inn
theorem footRd_canon{P:List UInt8}(h:(footRd P).2.1=0):FootR (footRd P).1∧P=footP (footRd P).1:=by
 have hfit:=footS_fit P
 unfold footRd at h ⊢
 by_cases hk:(footE P).k=0
 ·rw[if_pos hk]
  unfold footE at hk
  by_cases hR:footRb (footS P).2=true
  ·rw[if_pos hR] at hk
   obtain⟨z1,z2⟩:=Rs.fin_zero hfit.ok hk
   refine⟨footRb_iff.1 hR,?_⟩
   have ok0:(⟨0,0,0⟩:Rs).ok P.length:=⟨Nat.zero_le _,fun _=>rfl⟩
   clear hR hk h
   unfold footS at z1 z2 hfit ⊢
   have okb:=Rs.byte_ok (B:=P) ok0
   have cb:=Rs.byte_canon (B:=P) ok0
   generalize (⟨0,0,0⟩:Rs).byte P=b at*
   obtain⟨b1,b⟩:=b
   dsimp only at*
   have okb2:(if b=3 then b1 else b1.fail 7 0).ok P.length:=by
    split
    ·exact okb
    ·exact Rs.fail_ok okb (by omega)
   have cb2:(if b=3 then b1 else b1.fail 7 0).k=0→b=3∧P=[3]++P.drop (if b=3 then b1 else b1.fail 7 0).p:=fun hk=>by
    by_cases h3:b=3
    ·rw[if_pos h3] at hk ⊢
     have:=(cb hk).1
     rw[List.drop_zero,h3] at this
     exact⟨h3,this⟩
    ·rw[if_neg h3] at hk
     exact absurd hk (Rs.fail_k (by omega))
   generalize (if b=3 then b1 else b1.fail 7 0)=u at*
   have oke:=Rs.ep_okm (B:=P) okb2
   have ce:=Rs.ep_canon (B:=P) okb2
   generalize u.ep P=e at*
   obtain⟨e1,e⟩:=e
   dsimp only at*
   have okn:=Rs.int_ok (B:=P) oke (m:=65536)
   have cn:=Rs.int_canon (B:=P) (m:=65536) oke
   generalize e1.int P 65536=n at*
   obtain⟨n1,n⟩:=n
   dsimp only at*
   have okm:=Rs.int_ok (B:=P) okn (m:=65536)
   have cm:=Rs.int_canon (B:=P) (m:=65536) okn
   generalize n1.int P 65536=m at*
   obtain⟨m1,m⟩:=m
   dsimp only at*
   have okf:=Rs.num_ok (B:=P) okm
   have cf:=Rs.num_canon (B:=P) okm
   have mf:=fun h=>(Rs.num_more (B:=P) (s:=m1) h).2
   generalize m1.num P=f at*
   obtain⟨f1,f⟩:=f
   dsimp only at*
   have okg:=Rs.num_ok (B:=P) okf
   have cg:=Rs.num_canon (B:=P) okf
   have mg:=fun h=>(Rs.num_more (B:=P) (s:=f1) h).2
   generalize f1.num P=g at*
   obtain⟨g1,g⟩:=g
   dsimp only at*
   have oka:=Rs.int_ok (B:=P) okg (m:=1099511627776)
   have ca:=Rs.int_canon (B:=P) (m:=1099511627776) okg
   generalize g1.int P 1099511627776=a at*
   obtain⟨a1,a⟩:=a
   dsimp only at*
   have cz:=Rs.int_canon (B:=P) (m:=1099511627776) oka
   generalize a1.int P 1099511627776=z at*
   obtain⟨zz,z⟩:=z
   dsimp only at*
   obtain⟨dz,_,ka⟩:=cz z1
   obtain⟨da,_,kg⟩:=ca ka
   have dg:=(cg kg).1
   have kf:=mg kg
   have df:=(cf kf).1
   have km:=mf kf
   obtain⟨dm,_,kn⟩:=cm km
   obtain⟨dn,_,ke⟩:=cn kn
   obtain⟨_,de,ku⟩:=ce ke
   obtain⟨_,db⟩:=cb2 ku
   have dend:P.drop zz.p=[]:=by rw[z2,List.drop_length]
   unfold footP FootD.nums numsB
   simp only[Int.toNat_natCast,List.map_cons,List.map_nil,List.flatten_cons,List.flatten_nil]
   rw[dend] at dz
   rw[←dz,←da,←dg,←df,←dm,←dn,List.append_assoc,←de]
   exact db
  ·rw[if_neg hR,Rs.fin_bad (Rs.fail_k (by omega))] at hk
   exact absurd hk (Rs.fail_k (by omega))
 ·rw[if_neg hk] at h
  exact absurd h hk
theorem footRd_put{f:FootD}(hR:FootR f):footRd (footP f)=(f,0,0):=by
 have hb:=footRb_iff.2 hR
 have hN:=hR.nums
 obtain⟨h0,h1,h2,h3,h4,h5,h6,h7,h8,h9⟩:=hR
 have hep:1≤f.ep∧f.ep<4611686018427387904:=by simpa [epR] using h0
 have n1:=hN f.first (by simp[FootD.nums])
 have n2:=hN f.fin (by simp[FootD.nums])
 have hP:footP f=3::(varB f.ep.toNat++(varB f.n.toNat++(varB f.en.toNat++(varB f.first.toNat++(varB f.fin.toNat++(varB f.at_.toNat++(varB f.size.toNat++[]))))))):=by
  unfold footP FootD.nums numsB
  simp
 generalize footP f=P at*
 have b0:=Rs.byte_pre (B:=P) (p:=0) (by rw[List.drop_zero];exact hP) (Nat.zero_le _)
 rw[Nat.zero_add] at b0
 have d0:P.drop 1=varB f.ep.toNat++(varB f.n.toNat++(varB f.en.toNat++(varB f.first.toNat++(varB f.fin.toNat++(varB f.at_.toNat++(varB f.size.toNat++[])))))):=by rw[hP];rfl
 have l0:1≤P.length:=by rw[hP];simp
 have r0:=drop_room d0 l0
 have e1:=Rs.ep_putm h0 d0
 have d1:=drop_more d0
 have r1:=drop_room d1 (by omega)
 have e2:=Rs.int_pre (m:=65536) (by omega) d1 (by omega)
 have d2:=drop_more d1
 have r2:=drop_room d2 (by omega)
 have e3:=Rs.int_pre (m:=65536) (by omega) d2 (by omega)
 have d3:=drop_more d2
 have r3:=drop_room d3 (by omega)
 have e4:=Rs.num_varB (by omega) d3
 have d4:=drop_more d3
 have r4:=drop_room d4 (by omega)
 have e5:=Rs.num_varB (by omega) d4
 have d5:=drop_more d4
 have r5:=drop_room d5 (by omega)
 have e6:=Rs.int_pre (m:=1099511627776) (by omega) d5 (by omega)
 have d6:=drop_more d5
 have r6:=drop_room d6 (by omega)
 have e7:=Rs.int_pre (m:=1099511627776) (by omega) d6 (by omega)
 have hS:footS P=(⟨P.length,0,0⟩,f):=by
  unfold footS
  rw[b0]
  dsimp only
  rw[if_pos rfl,e1]
  dsimp only
  rw[e2]
  dsimp only
  rw[e3]
  dsimp only
  rw[e4]
  dsimp only
  rw[e5]
  dsimp only
  rw[e6]
  dsimp only
  rw[e7]
  dsimp only
  rw[List.length_nil] at r6
  rw[toNat_cast (by omega),toNat_cast (by omega),toNat_cast (by omega),toNat_cast (by omega),toNat_cast (by omega),toNat_cast (by omega),toNat_cast (by omega)]
  congr 2
 have hE:footE P=⟨P.length,0,0⟩:=by
  unfold footE Rs.fin
  rw[hS]
  dsimp only
  rw[if_pos hb,if_neg (Nat.lt_irrefl _)]
 unfold footRd
 rw[hE,hS]
 rfl
deriving instance DecidableEq for MarkD
deriving instance DecidableEq for FootD
theorem Rs.frame_canon{B P:List UInt8}{s t:Rs}(hs:s.fit B.length)(h:s.frame B 2097152=(t,P))(hk:t.k=0):B.drop s.p=frameB P++B.drop t.p∧t.p=s.p+(frameB P).length∧P.length≤2097152∧t.p≤B.length∧s.k=0:=by
 have hok:=(Rs.frame_fit hs 2097152).ok
 have hso:=hs.ok
 have hsl:=hs.ok.le
 rw[h] at hok
 have hle:=hok.le
 unfold Rs.frame at h
 dsimp only at h
 by_cases hc:crcSum (s.blob B (min 2097152 2097152)).2=fixN ((s.blob B (min 2097152 2097152)).1.take B 4).2
 ·rw[if_pos hc] at h
  by_cases hz:((s.blob B (min 2097152 2097152)).1.take B 4).1.k=0
  ·rw[if_pos hz] at h
   obtain⟨f1,f2,f3⟩:=Rs.take_canon hz
   have hb:=(Rs.take_more hz).2.1
   cases h
   dsimp only at hk hle
   unfold Rs.blob at hk hle hb f1 f2 f3 hc ⊢
   have hi:=(Rs.take_more hb).2.1
   obtain⟨b1,b2,b3⟩:=Rs.take_canon hb
   obtain⟨i1,i2,i3⟩:=Rs.int_canon (B:=B) (s:=s) hso hi
   generalize s.int B (min 2097152 2097152)=I at*
   obtain⟨u,n⟩:=I
   dsimp only at*
   generalize u.take B (n:Int)=J at*
   obtain⟨v,D⟩:=J
   dsimp only at*
   generalize v.take B 4=K at*
   obtain⟨x,C⟩:=K
   dsimp only at*
   have hn:D.length=n:=by omega
   have h4:C.length=4:=by omega
   have hC:fixedB 4 (crcSum D)=C:=by
    rw[hc,←h4]
    exact fixedB_fixN C
   have hB:B.drop s.p=frameB D++B.drop x.p:=by
    unfold frameB blobB
    rw[hn,hC,List.append_assoc,List.append_assoc,←f1,←b1]
    exact i1
   refine⟨hB,?_,by omega,hle,i3⟩
   have:=congrArg List.length hB
   rw[List.length_append,List.length_drop,List.length_drop] at this
   have h5:=frameB_low D
   omega
  ·rw[if_neg hz] at h
   cases h
   exact absurd hk hz
 ·rw[if_neg hc] at h
  cases h
  exact absurd hk (Rs.fail_k (by omega))
def Rs.within(s:Rs)(k f at_:Int):Rs:=if k=0 then s else s.fail k (wrap64 (f+at_))
theorem Rs.within_zero{s:Rs}{f at_:Int}:s.within 0 f at_=s:=if_pos rfl
def segRec(B:List UInt8)(ep:Int)(blk:List UInt8→Rs→Rs × List UInt8 × Bool):Nat→Rs→List Batch→List MarkD→Bool→Rs × Nat × List Batch × List MarkD × Bool
 | 0,s,l,M,q=>(s,0,l,M,q)
 | n+1,s,l,M,q=>
  let F:=s.frame B 2097152
  let a:Int:=(F.1.p:Int)-4-(F.2.length:Int)
  if F.1.k=0 then
   if F.2=[] then (F.1.fail 1 a,s.p,l,M,q)
   else if F.2.headD 0=1 then
    let b:=Rs.batch F.2 (blk F.2) ⟨1,0,0⟩
    let e:=b.1.fin F.2.length
    let u:=F.1.within e.k e.f a
    if u.k=0 then
     if l.length=16 then (u.fail 2 s.p,s.p,l,M,q)
     else if mayR ep (prevB l l.length) b.2.1=true then segRec B ep blk n u (l++[b.2.1]) (M++[⟨b.2.1.base,b.2.1.entries.length,s.p⟩]) (q&&b.2.2)
     else (u.fail 13 s.p,s.p,l,M,q)
    else (u,s.p,l,M,q)
   else if F.2.headD 0=2 then
    let m:=(⟨1,0,0⟩:Rs).marks_ F.2
    let e:=m.1.fin F.2.length
    let u:=F.1.within e.k e.f a
    (if u.k=0∧m.2≠M then u.fail 12 s.p else u,s.p,l,M,q)
   else (F.1.fail 7 a,s.p,l,M,q)
  else (F.1,s.p,l,M,q)
abbrev bS:=fun P:List UInt8=>blkS P
structure BlkF(blk:List UInt8→Rs→Rs × List UInt8 × Bool):Prop where
 k:∀(P:List UInt8) (t:Rs),(blk P t).1.k=0→t.k=0
 len:∀(P:List UInt8) (t:Rs),(blk P t).2.1.length≤1048576
 can:∀(P:List UInt8) (t:Rs),t.ok P.length→(blk P t).1.k=0→(blk P t).2.2=true→P.drop t.p=blockB (blk P t).2.1++P.drop (blk P t).1.p
 ok:∀(P:List UInt8) (t:Rs),t.ok P.length→(blk P t).1.ok P.length
theorem segRec_succ(B:List UInt8)(ep:Int)(blk:List UInt8→Rs→Rs × List UInt8 × Bool)(n:Nat)(s:Rs)(l:List Batch)(M:List MarkD)(q:Bool){F:Rs × List UInt8}(hF:s.frame B 2097152=F):segRec B ep blk (n+1) s l M q=
  (if F.1.k=0 then
   if F.2=[] then (F.1.fail 1 ((F.1.p:Int)-4-(F.2.length:Int)),s.p,l,M,q)
   else if F.2.headD 0=1 then
    if (F.1.within ((Rs.batch F.2 (blk F.2) ⟨1,0,0⟩).1.fin F.2.length).k ((Rs.batch F.2 (blk F.2) ⟨1,0,0⟩).1.fin F.2.length).f ((F.1.p:Int)-4-(F.2.length:Int))).k=0 then
     if l.length=16 then ((F.1.within ((Rs.batch F.2 (blk F.2) ⟨1,0,0⟩).1.fin F.2.length).k ((Rs.batch F.2 (blk F.2) ⟨1,0,0⟩).1.fin F.2.length).f ((F.1.p:Int)-4-(F.2.length:Int))).fail 2 s.p,s.p,l,M,q)
     else if mayR ep (prevB l l.length) (Rs.batch F.2 (blk F.2) ⟨1,0,0⟩).2.1=true then segRec B ep blk n (F.1.within ((Rs.batch F.2 (blk F.2) ⟨1,0,0⟩).1.fin F.2.length).k ((Rs.batch F.2 (blk F.2) ⟨1,0,0⟩).1.fin F.2.length).f ((F.1.p:Int)-4-(F.2.length:Int))) (l++[(Rs.batch F.2 (blk F.2) ⟨1,0,0⟩).2.1]) (M++[⟨(Rs.batch F.2 (blk F.2) ⟨1,0,0⟩).2.1.base,(Rs.batch F.2 (blk F.2) ⟨1,0,0⟩).2.1.entries.length,s.p⟩]) (q&&(Rs.batch F.2 (blk F.2) ⟨1,0,0⟩).2.2)
     else ((F.1.within ((Rs.batch F.2 (blk F.2) ⟨1,0,0⟩).1.fin F.2.length).k ((Rs.batch F.2 (blk F.2) ⟨1,0,0⟩).1.fin F.2.length).f ((F.1.p:Int)-4-(F.2.length:Int))).fail 13 s.p,s.p,l,M,q)
    else ((F.1.within ((Rs.batch F.2 (blk F.2) ⟨1,0,0⟩).1.fin F.2.length).k ((Rs.batch F.2 (blk F.2) ⟨1,0,0⟩).1.fin F.2.length).f ((F.1.p:Int)-4-(F.2.length:Int))),s.p,l,M,q)
   else if F.2.headD 0=2 then
    (if (F.1.within ((((⟨1,0,0⟩:Rs).marks_ F.2).1.fin F.2.length).k) ((((⟨1,0,0⟩:Rs).marks_ F.2).1.fin F.2.length).f) ((F.1.p:Int)-4-(F.2.length:Int))).k=0∧((⟨1,0,0⟩:Rs).marks_ F.2).2≠M then (F.1.within ((((⟨1,0,0⟩:Rs).marks_ F.2).1.fin F.2.length).k) ((((⟨1,0,0⟩:Rs).marks_ F.2).1.fin F.2.length).f) ((F.1.p:Int)-4-(F.2.length:Int))).fail 12 s.p else (F.1.within ((((⟨1,0,0⟩:Rs).marks_ F.2).1.fin F.2.length).k) ((((⟨1,0,0⟩:Rs).marks_ F.2).1.fin F.2.length).f) ((F.1.p:Int)-4-(F.2.length:Int))),s.p,l,M,q)
   else (F.1.fail 7 ((F.1.p:Int)-4-(F.2.length:Int)),s.p,l,M,q)
  else (F.1,s.p,l,M,q)):=by
 subst hF
 rfl
def recsB(t:List Batch):List UInt8:=(t.map fun b=>recB 1 (batchB b)).flatten
def marksT:Nat→List Batch→List MarkD
 | _,[]=>[]
 | p,b::t=>⟨b.base,b.entries.length,p⟩::marksT (p+(recB 1 (batchB b)).length) t
theorem recsB_cons(b:Batch)(t:List Batch):recsB (b::t)=recB 1 (batchB b)++recsB t:=by simp[recsB]
theorem segGo_eq:∀(t:List Batch) (J:List UInt8) (M:List MarkD),segGo J M t=(J++recsB t,M++marksT J.length t)
 | [],J,M=>by simp[segGo,recsB,marksT]
 | b::t,J,M=>by
  have h:segGo J M (b::t)=segGo (J++recB 1 (batchB b)) (M++[⟨b.base,b.entries.length,J.length⟩]) t:=rfl
  rw[h,segGo_eq t,recsB_cons,List.append_assoc,List.append_assoc,List.length_append]
  rfl
def BlkP(blk:List UInt8→Rs→Rs × List UInt8 × Bool):Prop:=∀(b:Batch),batchR b=true→∀(P rest:List UInt8) (q:Nat),q≤P.length→P.drop q=blockB (joined b.entries)++rest→blk P ⟨q,0,0⟩=(⟨q+(blockB (joined b.entries)).length,0,0⟩,joined b.entries,true)
theorem bS_p:BlkP bS:=fun b hR P rest q h1 h2=>blkS_put hR P rest q h1 h2
theorem segB_eq(ep:Int)(l:List Batch):segB ep l=headHB 3 ep.toNat 0++(recsB l++(recB 2 (indexB (marksT (headHB 3 ep.toNat 0).length l))++footB (segF ep l)))∧
  segF ep l=footM ep (marksT (headHB 3 ep.toNat 0).length l) ((headHB 3 ep.toNat 0).length+(recsB l).length:Nat) ((recB 2 (indexB (marksT (headHB 3 ep.toNat 0).length l))).length:Nat)∧(segW ep l).2=marksT (headHB 3 ep.toNat 0).length l:=by
 have hW:segW ep l=(headHB 3 ep.toNat 0++recsB l,marksT (headHB 3 ep.toNat 0).length l):=by
  unfold segW
  rw[segGo_eq,List.nil_append]
 unfold segB segF segX
 rw[hW]
 refine⟨by simp only[List.append_assoc],by dsimp only;rw[List.length_append],rfl⟩
section
variable {B:List UInt8} {s:Rs}
theorem Rs.links_fit{pos:Int}(h:s.fit B.length):(s.links B pos).1.fit B.length:=Rs.linksF_fit _ _ _ _ (Rs.int_fit h)
theorem Rs.ehead_fit{pos most:Int}(h:s.fit B.length):(s.ehead B pos most).1.fit B.length:=by
 unfold Rs.ehead
 split<;>exact Rs.int_fit (Rs.links_fit h)
theorem Rs.heads_fit{B:List UInt8}:∀(n:Nat) (s:Rs) (pos left:Int) (out:List (List Link × Nat)),s.fit B.length→(Rs.heads B n s pos left out).1.fit B.length
 | 0,s,pos,left,out,h=>h
 | n+1,s,pos,left,out,h=>by
  simp only[Rs.heads]
  split
  ·exact Rs.heads_fit n _ _ _ _ (Rs.ehead_fit h)
  ·exact Rs.ehead_fit h
theorem Rs.bfront_fit(h:s.fit B.length):(s.bfront B).1.fit B.length:=by
 have h2:=Rs.po_fit (Rs.ep_fit h)
 have h3:=Rs.int_fit (m:=16) h2
 unfold Rs.bfront
 dsimp only
 split
 ·exact h3
 ·exact Rs.fail_fit h3 h2 (by omega)
theorem Rs.batch_fit{blk:Rs→Rs × List UInt8 × Bool}(hb:∀t:Rs,t.fit B.length→(blk t).1.fit B.length)(h:s.fit B.length):(Rs.batch B blk s).1.fit B.length:=by
 have h2:=Rs.bfront_fit h
 have h3:=Rs.heads_fit (s.bfront B).2.2.2 (s.bfront B).1 ((s.bfront B).2.2.1:Int) 1048576 [] h2
 have h4:(Rs.bblock blk (Rs.heads B (s.bfront B).2.2.2 (s.bfront B).1 ((s.bfront B).2.2.1:Int) 1048576 [])).1.fit B.length:=by
  unfold Rs.bblock
  dsimp only
  split
  ·exact hb _ h3
  ·exact Rs.fail_fit (hb _ h3) h3 (by omega)
 unfold Rs.batch
 dsimp only
 split
 ·split
  ·exact h4
  ·exact h4
 ·exact h2
end
def Rs.one(L:Nat)(s:Rs):Prop:=s.k=1→s.f=L
section
variable {D:List UInt8} {s:Rs}
end
def trailN(B:List UInt8):Nat × Int × Int:=
 if B.length<12 then (0,1,(B.length:Int))
 else if B.drop (B.length-4)=[76,79,72,84] then
  (if fixN ((B.drop (B.length-8)).take 4)=crcSum ((B.drop (B.length-12)).take 4) then
   (if fixN ((B.drop (B.length-12)).take 4)≤B.length-12 then (fixN ((B.drop (B.length-12)).take 4),0,0) else (0,3,(B.length:Int)-12))
  else (0,6,(B.length:Int)-8))
 else (0,14,(B.length:Int)-4)
theorem trailN_ok{B:List UInt8}(h:(trailN B).2.1=0):12≤B.length∧(trailN B).1≤B.length-12:=by
 unfold trailN at h ⊢
 by_cases h1:B.length<12
 ·rw[if_pos h1] at h
  exact absurd (show (1:Int)=0 from h) (by decide)
 ·rw[if_neg h1] at h ⊢
  split at h
  ·rename_i h2
   rw[if_pos h2]
   split at h
   ·rename_i h3
    rw[if_pos h3]
    split at h
    ·rename_i h4
     rw[if_pos h4]
     exact⟨by omega,h4⟩
    ·exact absurd (show (3:Int)=0 from h) (by decide)
   ·exact absurd (show (6:Int)=0 from h) (by decide)
  ·exact absurd (show (14:Int)=0 from h) (by decide)
def footF(B:List UInt8):FootD × Nat × Int × Int:=
 let t:=trailN B
 if t.2.1=0 then
  let a:=B.length-12-t.1
  let F:=(⟨0,0,0⟩:Rs).frame ((B.take (B.length-12)).drop a) 2097152
  if F.1.k=0 then
   if F.1.p<t.1 then (footZ0,0,9,(a:Int)+(F.1.p:Int))
   else
    let f:=footRd F.2
    if f.2.1=0 then (f.1,a,0,0) else (footZ0,0,f.2.1,f.2.2+((a:Int)+(F.1.p:Int)-4-(F.2.length:Int)))
  else (footZ0,0,F.1.k,F.1.f+(a:Int))
 else (footZ0,0,t.2.1,t.2.2)
def cont{α:Type}(D:List UInt8)(kind:UInt8)(rd:List UInt8→Rs→Rs × α)(z:α):α × Nat × Int × Int:=
 let F:=(⟨0,0,0⟩:Rs).frame D 2097152
 if F.1.k=0 then
  let b:=(⟨0,0,0⟩:Rs).byte F.2
  let x:=rd F.2 (if b.2=kind then b.1 else b.1.fail 7 0)
  let e:=x.1.fin F.2.length
  if e.k=0 then (x.2,F.1.p,0,0) else (z,0,e.k,e.f+((F.1.p:Int)-4-(F.2.length:Int)))
 else (z,0,F.1.k,F.1.f)
def idxC(D:List UInt8):List MarkD × Nat × Int × Int:=cont D 2 (fun P s=>s.marks_ P) []
def batC(D:List UInt8):Batch × Nat × Int × Int:=cont D 1 (fun P s=>((Rs.batch P (blkS P) s).1,(Rs.batch P (blkS P) s).2.1)) noBatch
structure PlaceD where
 foot:FootD
 at_:Nat
 marks:List MarkD
def placeZ:PlaceD:=⟨footZ0,0,[]⟩
def fndC(f:FootD)(a:Nat)(c:List MarkD × Nat × Int × Int):PlaceD × Int × Int:=
 if c.2.2.1=0 then
  if (c.2.1:Int)<f.size then (placeZ,9,(c.2.1:Int)+f.at_)
  else if f=footM f.ep c.1 f.at_ f.size then (⟨f,a,c.1⟩,0,0)
  else (placeZ,12,f.at_)
 else (placeZ,c.2.2.1,c.2.2.2+f.at_)
def fnd(B:List UInt8):PlaceD × Int × Int:=
 let q:=footF B
 if q.2.2.1=0 then
  if (q.2.1:Int)<q.1.at_+q.1.size then (placeZ,3,(q.2.1:Int))
  else fndC q.1 q.2.1 (idxC ((B.take (q.1.at_+q.1.size).toNat).drop q.1.at_.toNat))
 else (placeZ,q.2.2.1,q.2.2.2)
theorem footF_ok{B:List UInt8}(h:(footF B).2.2.1=0):FootR (footF B).1∧(footF B).2.1+12≤B.length∧(footF B).2.2.2=0:=by
 unfold footF at h ⊢
 dsimp only at h ⊢
 by_cases h1:(trailN B).2.1=0
 ·rw[if_pos h1] at h ⊢
  obtain⟨h2,h3⟩:=trailN_ok h1
  generalize trailN B=t at*
  generalize (⟨0,0,0⟩:Rs).frame ((B.take (B.length-12)).drop (B.length-12-t.1)) 2097152=F at*
  by_cases hk:F.1.k=0
  ·rw[if_pos hk] at h ⊢
   by_cases hp:F.1.p<t.1
   ·rw[if_pos hp] at h
    exact absurd (show (9:Int)=0 from h) (by decide)
   ·rw[if_neg hp] at h ⊢
    by_cases hf:(footRd F.2).2.1=0
    ·rw[if_pos hf]
     exact⟨(footRd_canon hf).1,by dsimp only;omega,rfl⟩
    ·rw[if_neg hf] at h
     exact absurd h hf
  ·rw[if_neg hk] at h
   exact absurd h hk
 ·rw[if_neg h1] at h
  exact absurd h h1
theorem footF_bad{B:List UInt8}(h:(footF B).2.2.1≠0):(footF B).1=footZ0∧(footF B).2.1=0:=by
 unfold footF at h ⊢
 dsimp only at h ⊢
 split
 ·split
  ·split
   ·exact⟨rfl,rfl⟩
   ·split
    ·rename_i h1 h2 h3 h4
     rw[if_pos h1,if_pos h2,if_neg h3,if_pos h4] at h
     exact absurd rfl h
    ·exact⟨rfl,rfl⟩
  ·exact⟨rfl,rfl⟩
 ·exact⟨rfl,rfl⟩
theorem marksR_nil:marksR []=true:=by decide
theorem kind_fit{P:List UInt8}{k:UInt8}:(if ((⟨0,0,0⟩:Rs).byte P).2=k then ((⟨0,0,0⟩:Rs).byte P).1 else ((⟨0,0,0⟩:Rs).byte P).1.fail 7 0).fit P.length:=by
 have h0:=Rs.zero_fit P.length
 have h1:=Rs.byte_fit (B:=P) h0
 split
 ·exact h1
 ·exact Rs.fail_fit (s:=⟨0,0,0⟩) h1 h0 (by omega)
theorem cont_ok{α:Type}{D:List UInt8}{kind:UInt8}{rd:List UInt8→Rs→Rs × α}{z:α}(h:(cont D kind rd z).2.2.1=0):
  ∃(P:List UInt8) (s:Rs),s.fit P.length∧((rd P s).1.fin P.length).k=0∧(cont D kind rd z).1=(rd P s).2∧(cont D kind rd z).2.2.2=0:=by
 unfold cont at h ⊢
 dsimp only at h ⊢
 generalize (⟨0,0,0⟩:Rs).frame D 2097152=F at*
 have hk:=kind_fit (P:=F.2) (k:=kind)
 generalize (if ((⟨0,0,0⟩:Rs).byte F.2).2=kind then ((⟨0,0,0⟩:Rs).byte F.2).1 else ((⟨0,0,0⟩:Rs).byte F.2).1.fail 7 0)=s at*
 by_cases h1:F.1.k=0
 ·rw[if_pos h1] at h ⊢
  by_cases h2:((rd F.2 s).1.fin F.2.length).k=0
  ·rw[if_pos h2]
   exact⟨F.2,s,hk,h2,rfl,rfl⟩
  ·rw[if_neg h2] at h
   exact absurd h h2
 ·rw[if_neg h1] at h
  exact absurd h h1
theorem cont_bad{α:Type}{D:List UInt8}{kind:UInt8}{rd:List UInt8→Rs→Rs × α}{z:α}(h:(cont D kind rd z).2.2.1≠0):(cont D kind rd z).1=z:=by
 unfold cont at h ⊢
 dsimp only at h ⊢
 generalize (⟨0,0,0⟩:Rs).frame D 2097152=F at*
 generalize (if ((⟨0,0,0⟩:Rs).byte F.2).2=kind then ((⟨0,0,0⟩:Rs).byte F.2).1 else ((⟨0,0,0⟩:Rs).byte F.2).1.fail 7 0)=s at*
 by_cases h1:F.1.k=0
 ·rw[if_pos h1] at h ⊢
  by_cases h2:((rd F.2 s).1.fin F.2.length).k=0
  ·rw[if_pos h2] at h
   exact absurd rfl h
  ·rw[if_neg h2]
 ·rw[if_neg h1]
theorem cont_in{α:Type}{D:List UInt8}{kind:UInt8}{rd:List UInt8→Rs→Rs × α}{z:α}(hD:D.length≤1000000000)(hrd:∀(P:List UInt8) (s:Rs),s.fit P.length→(rd P s).1.fit P.length):
  -10000000≤(cont D kind rd z).2.2.2∧(cont D kind rd z).2.2.2≤3000000000∧(cont D kind rd z).2.1≤D.length:=by
 have hfit:=Rs.frame_fit (B:=D) (Rs.zero_fit D.length) 2097152
 have hP:((⟨0,0,0⟩:Rs).frame D 2097152).1.k=0→((⟨0,0,0⟩:Rs).frame D 2097152).2.length≤2097152:=fun h=>(Rs.frame_canon (Rs.zero_fit D.length) rfl h).2.2.1
 unfold cont
 dsimp only
 generalize (⟨0,0,0⟩:Rs).frame D 2097152=F at*
 have hk:=kind_fit (P:=F.2) (k:=kind)
 generalize (if ((⟨0,0,0⟩:Rs).byte F.2).2=kind then ((⟨0,0,0⟩:Rs).byte F.2).1 else ((⟨0,0,0⟩:Rs).byte F.2).1.fail 7 0)=s at*
 have hm:=(Rs.fin_fit (hrd F.2 s hk)).inn
 generalize (rd F.2 s).1.fin F.2.length=e at*
 have hle:=hfit.ok.le
 have hin:=hfit.inn
 unfold Rs.inn at hin hm
 by_cases h1:F.1.k=0
 ·have hP:=hP h1
  rw[if_pos h1]
  by_cases h2:e.k=0
  ·rw[if_pos h2]
   exact⟨by dsimp only;omega,by dsimp only;omega,hle⟩
  ·rw[if_neg h2]
   exact⟨by dsimp only;omega,by dsimp only;omega,Nat.zero_le _⟩
 ·rw[if_neg h1]
  exact⟨by dsimp only;omega,by dsimp only;omega,Nat.zero_le _⟩
theorem idxC_right{D:List UInt8}:marksR (idxC D).1=true:=by
 by_cases h:(idxC D).2.2.1=0
 ·obtain⟨P,s,h1,h2,h3,_⟩:=cont_ok h
  have hf:=Rs.marks_fit h1
  have:=(Rs.marks_canon h1.ok (Rs.fin_zero hf.ok h2).1).1
  unfold idxC
  rw[h3]
  exact this
 ·have:=cont_bad h
  unfold idxC
  rw[this]
  exact marksR_nil
theorem idxC_in{D:List UInt8}(hD:D.length≤1000000000): -10000000≤(idxC D).2.2.2∧(idxC D).2.2.2≤3000000000∧(idxC D).2.1≤D.length∧((idxC D).2.2.1=0→(idxC D).2.2.2=0):=by
 obtain⟨h1,h2,h3⟩:=cont_in (kind:=2) (rd:=fun P s=>s.marks_ P) (z:=([]:List MarkD)) hD (fun P s h=>Rs.marks_fit h)
 refine⟨h1,h2,h3,fun h=> ?_⟩
 obtain⟨P,s,_,_,_,h5⟩:=cont_ok h
 exact h5
theorem fndC_right{f:FootD}{a:Nat}{c:List MarkD × Nat × Int × Int}(h:marksR c.1=true):marksR (fndC f a c).1.marks=true:=by
 unfold fndC
 by_cases h1:c.2.2.1=0
 ·rw[if_pos h1]
  by_cases h2:(c.2.1:Int)<f.size
  ·rw[if_pos h2]
   exact marksR_nil
  ·rw[if_neg h2]
   by_cases h3:f=footM f.ep c.1 f.at_ f.size
   ·rw[if_pos h3]
    exact h
   ·rw[if_neg h3]
    exact marksR_nil
 ·rw[if_neg h1]
  exact marksR_nil
theorem fnd_right{B:List UInt8}:marksR (fnd B).1.marks=true:=by
 unfold fnd
 dsimp only
 by_cases h1:(footF B).2.2.1=0
 ·rw[if_pos h1]
  by_cases h2:((footF B).2.1:Int)<(footF B).1.at_+(footF B).1.size
  ·rw[if_pos h2]
   exact marksR_nil
  ·rw[if_neg h2]
   exact fndC_right idxC_right
 ·rw[if_neg h1]
  exact marksR_nil
structure HdrI(w:World)(g:Nat)(B:List UInt8)(a:Option Addr)(s:Rs)(gh:Nat)(v e b:Nat)(W:World):Prop where
 inv:RdInv w W g B a s
 mb:Blk W w.heap.size 170 #[.int .i64 0,.int .u64 0,.int .u64 0]
 hb:Blk W gh 170 #[.int .i64 (v:Int),.int .u64 (e:Int),.int .u64 (b:Int)]
 gm:w.heap.size<gh
section
variable {w W W':World} {g gh:Nat} {B:List UInt8} {a:Option Addr} {s s':Rs} {v e b:Nat}
theorem HdrI.step(h:HdrI w g B a s gh v e b W)(k:RdStep W g B a s' W'):HdrI w g B a s' gh v e b W':=by
 have h1:=h.inv.lt
 have h2:=h.gm
 exact⟨h.inv.step k,h.mb.tch k.2 (by omega),h.hb.tch k.2 (by omega),h2⟩
theorem HdrI.later(h:HdrI w g B a s gh v e b W)(hb:Below W.heap.size W W'):HdrI w g B a s gh v e b W':=
 ⟨h.inv.row (hb.mono h.inv.tch.size),h.mb.later hb,h.hb.later hb,h.gm⟩
theorem HdrI.set(h:HdrI w g B a s gh v e b W)(i:Nat)(u:Value){v' e' b':Nat}(hb:Blk (W.setCell ⟨gh,i,none⟩ u) gh 170 #[.int .i64 (v':Int),.int .u64 (e':Int),.int .u64 (b':Int)]):HdrI w g B a s gh v' e' b' (W.setCell ⟨gh,i,none⟩ u):=by
 have h2:=h.gm
 exact⟨h.inv.row (Below.setCell (Below.refl _ _) (by dsimp only;omega) _),h.mb.far (by dsimp only;omega) _,hb,h2⟩
end
end Go.Proofs.YtmioakocnebceaaGreat
