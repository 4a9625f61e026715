/- Mini: Needed by lookupWhole_walk, part 9: texts put together by shake.py; no condition. -/
import Derived.Test.YtmioakocnebceaaGreatWK8
import Derived.Test.YtmioakocnebceaaGreatWK5
import Derived.Test.YtmioakocnebceaaGreatWK7
import Derived.Deep.Cut
import Derived.Deep.RegionHeld3
import Derived.Test.YtmioakocnebceaaGreatWK3
import Derived.Test.YtmioakocnebceaaGreatWK4
import Derived.Deep.CutRange
import Derived.Scope
import Derived.Test.YtmioakocnebceaaGreatProg
import Derived.WalkKit
import Derived.Deep.WholeRow
import Derived.BigQuiet
import Derived.Test.YtmioakocnebceaaGreatWK1
import Derived.Test.YtmioakocnebceaaGreatWK6
import Derived.Lib.SlBytesConst
set_option linter.unusedVariables false
set_option linter.unusedSimpArgs false
set_option maxRecDepth 100000
set_option maxHeartbeats 6400000
namespace Go.Proofs.YtmioakocnebceaaGreat
open Go.RowKit Go.Bs Go.Maps
structure Unblock(w:World)(g:Nat)(B:List UInt8)(a:Option Addr)(fn:Nat)(caps:Array Value)(blk:Rs→Rs × List UInt8 × Bool)(K:Nat→Prop)(X:World→Bool→Prop):Prop where
 lt:∀b,K b→b<w.heap.size
 own:K g
 st:∀W W' q,X W q→w.heap.size≤W.heap.size→Tch (fun b=>b=g∨w.heap.size≤b) W W'→X W' q
 call:∀W t,RdAt W g B a t→X W false→w.heap.size≤W.heap.size→Tch K w W→Calls Tryz.prog fn caps W fun r W'=>∃v,r=.returned v∧rBytes.r (Fresh W W') W' [v] (blk t).2.1∧RdAt W' g B a (blk t).1∧Tch K W W'∧X W' (blk t).2.2
 size:∀t,(blk t).2.1.length≤1048576
 dat:rBytes.r (fun q=>q<w.heap.size∧¬K q) w [.slice a B.length B.length] B
 ent:∀(xs:Array Value) (W:World),(callFunc fn xs).run Tryz.prog W=.ok (.enter fn xs) W
theorem Unblock.rd{w W:World}{g:Nat}{B:List UInt8}{a:Option Addr}{fn:Nat}{caps:Array Value}{blk:Rs→Rs × List UInt8 × Bool}{K:Nat→Prop}{X:World→Bool→Prop}(hU:Unblock w g B a fn caps blk K X){s:Rs}(ht:Tch K w W)
  (hb:Blk W g 331 #[.slice a B.length B.length,.int .i64 (s.p:Int),.int .i64 s.k,.int .i64 s.f]) (hs:s.ok B.length):RdAt W g B a s:=
 ⟨hb,rBytes.mono (rBytes.keep hU.dat fun q hq=>ht.block q hq.1 hq.2) fun q hq=>⟨Nat.lt_of_lt_of_le hq.1 ht.size,fun e=>hq.2 (e ▸ hU.own)⟩,hs⟩
def Fine(h:List Link × Nat):Prop:=h.2≤1048576∧h.1.length≤16∧∀z∈h.1,z.backs.length≤4
theorem Rs.falls_len{B:List UInt8}:∀(n:Nat) (s:Rs) (below:Int) (out:List Int),(Rs.falls B n s below out).2.length≤n+out.length
 | 0,s,below,out=>by simp[Rs.falls]
 | n+1,s,below,out=>by
  simp only[Rs.falls]
  split
  ·split
   ·simp
   ·have:=Rs.falls_len (B:=B) n (s.num B).1 (below-(s.num B).2-1) (out++[below-(s.num B).2-1])
    simp at this
    omega
  ·simp
theorem Rs.delta_len{B:List UInt8}{s:Rs}{below most:Int}:(s.delta B below most).2.length≤most.toNat:=by
 have:=Rs.falls_len (B:=B) (s.int B most).2 (s.int B most).1 below []
 have h2:=Rs.int_le (B:=B) (s:=s) (m:=most)
 unfold Rs.delta
 simp at this
 omega
theorem Rs.linksF_fine{B:List UInt8}{pos:Int}:∀(n:Nat) (s:Rs) (prev:Option Int) (out:List Link),(∀z∈out,z.backs.length≤4)→(Rs.linksF B pos n s prev out).2.length≤n+out.length∧∀z∈(Rs.linksF B pos n s prev out).2,z.backs.length≤4
 | 0,s,prev,out,h=>by simpa [Rs.linksF] using h
 | n+1,s,prev,out,h=>by
  simp only[Rs.linksF]
  split
  ·have:=Rs.linksF_fine (B:=B) (pos:=pos) n ((s.stream B prev).1.delta B pos 4).1 (some (s.stream B prev).2) (out++[⟨(s.stream B prev).2,((s.stream B prev).1.delta B pos 4).2⟩]) (fun z hz=>by
    rw[List.mem_append,List.mem_singleton] at hz
    rcases hz with hz | rfl
    ·exact h z hz
    ·exact Rs.delta_len (most:=4))
   refine⟨?_,this.2⟩
   have h1:=this.1
   simp at h1
   omega
  ·simp
theorem Rs.ehead_fine{B:List UInt8}{s:Rs}{pos most:Int}(hm:most≤1048576):Fine (s.ehead B pos most).2:=by
 have h1:=Rs.linksF_fine (B:=B) (pos:=pos) (s.int B 16).2 (s.int B 16).1 none [] (by simp)
 have h2:=Rs.int_le (B:=B) (s:=s) (m:=16)
 have h3:=Rs.int_le (B:=B) (s:=(s.links B pos).1) (m:=most)
 unfold Rs.ehead
 split
 ·refine⟨by dsimp only;omega,?_,h1.2⟩
  have:=h1.1
  simp at this
  show (s.links B pos).2.length≤16
  unfold Rs.links
  omega
 ·exact⟨Nat.zero_le _,Nat.zero_le _,by simp⟩
theorem Rs.heads_fine{B:List UInt8}:∀(n:Nat) (s:Rs) (pos left:Int) (out:List (List Link × Nat)),left≤1048576→(∀h∈out,Fine h)→(Rs.heads B n s pos left out).2.length≤n+out.length∧∀h∈(Rs.heads B n s pos left out).2,Fine h
 | 0,s,pos,left,out,hl,h=>by simpa [Rs.heads] using h
 | n+1,s,pos,left,out,hl,h=>by
  simp only[Rs.heads]
  split
  ·have:=Rs.heads_fine (B:=B) n (s.ehead B pos left).1 (pos+1) (left-(s.ehead B pos left).2.2) (out++[(s.ehead B pos left).2]) (by omega) (fun z hz=>by
    rw[List.mem_append,List.mem_singleton] at hz
    rcases hz with hz | rfl
    ·exact h z hz
    ·exact Rs.ehead_fine hl)
   refine⟨?_,this.2⟩
   have h1:=this.1
   simp at h1
   omega
  ·simp
theorem HeadsAt.ints{lo:Nat}{W:World}{v u:Value}{J:List (List Link × Nat)}(h:HeadsAt lo W v u J)(hJ:∀h∈J,Fine h):rI64s.r (fun b=>lo≤b∧b<W.heap.size) W [u] (J.map fun h=>(h.2:Int)):=by
 refine own_one (A:=rInt .i64) (Value.int .i64) (fun S x hx=> ?_) (by simp) (e:=3) (n:=J.length) ?_
 ·obtain⟨h,hm,rfl⟩:=List.mem_map.1 hx
  have:=(hJ h hm).1
  exact⟨rfl,i64_wf (by omega)⟩
 ·have:=h.szs
  simpa [sizeCells,List.map_map,Function.comp_def] using this
theorem batch_read_gen(w:World){g:Nat}{B:List UInt8}{a:Option Addr}{s:Rs}(h:RdAt w g B a s)(hB:B.length≤1000000000)(fn:Nat)(caps:Array Value)(blk:Rs→Rs × List UInt8 × Bool)(K:Nat→Prop)(X:World→Bool→Prop)(hU:Unblock w g B a fn caps blk K X)(hX:X w false):
  Calls Tryz.prog 154 #[.pointer (some ⟨g,0,none⟩),.func (Fn.func fn) #[] caps] w fun r w'=>∃v q,r=.returned (.agg #[.int .u64 (Rs.batch B blk s).2.1.epoch,.int .u64 (Rs.batch B blk s).2.1.base,v])∧rEntriesW.r (Fresh w w') w' [v] (Rs.batch B blk s).2.1.entries∧RdAt w' g B a (Rs.batch B blk s).1∧Tch K w w'∧X w' q∧((Rs.batch B blk s).1.k=0→q=(Rs.batch B blk s).2.2):=by
 have hlt:=h.blk.lt
 have HIN:=hid (RdInv.refl h)
 have HU:=hid hU
 have HX:=hid hX
 have HEP:=hid (fun (W:World) (hW:RdAt W g B a s)=>epoch_read W hW hB)
 have HPO:=hid (fun (W:World) (hW:RdAt W g B a (s.ep B).1)=>epoch_readpos W hW hB)
 have HIT:=hid (fun (W:World) (hW:RdAt W g B a ((s.ep B).1.po B).1)=>varint_int W hW (by omega) 16 (by omega))
 have hn16:=Rs.int_le (B:=B) (s:=((s.ep B).1.po B).1) (m:=16)
 have hpb:(((s.ep B).1.po B).2:Int)≤18446744073709551615:=by
  have:=Rs.num_small (B:=B) (s:=(s.ep B).1)
  unfold Rs.po
  split
  ·split
   ·omega
   ·simp
  ·simp
 have hok2:=(Rs.po_ok (B:=B) (Rs.ep_ok (B:=B) h.ok)).le
 unfold Rs.batch Rs.bfront
 clear h hU hX
 generalize s.ep B=E at*
 obtain⟨s1,e⟩:=E
 dsimp only at*
 generalize s1.po B=P at*
 obtain⟨s2,p⟩:=P
 dsimp only at*
 generalize s2.int B 16=I at*
 obtain⟨s3,n⟩:=I
 dsimp only at*
 have hn:n≤16:=by omega
 have hp1:(0:Int)≤(p:Int)∧(p:Int)≤18446744073709551615:=by omega
 have hp2:0≤(s2.p:Int)∧(s2.p:Int)≤9223372036854775807:=by omega
 clear hn16 hpb hok2
 by_cases hfit:fitsR (p:Int) n=true
 ·rw[if_pos hfit]
  have HF:=hid (fun (W:World)=>(by have:=batch_fits (p:Int) n W hp1 (by omega);rw[hfit] at this;exact this:Calls Tryz.prog 251 #[.int .u64 (p:Int),.int .i64 n] W fun r w'=>r=.returned (.bool true)∧W=w'))
  have hfit':=hfit
  simp only[fitsR,decide_eq_true_eq] at hfit'
  have hpn:(0:Int)≤(p:Int)∧(p:Int)+n≤18446744073709551615:=by omega
  clear hfit hfit'
  by_cases hk3:s3.k=0
  ·rw[if_pos hk3]
   have HG:=hid (fun (W:World) (hW:RdAt W g B a s3)=>(by have:=rd_good W hW;rw[decide_eq_true hk3] at this;exact this:Calls Tryz.prog 151 #[.pointer (some ⟨g,0,none⟩)] W fun r w'=>r=.returned (.bool true)∧Below W.heap.size W w'))
   have HHD:=hid (fun (W:World) (hW:RdAt W g B a s3)=>batch_heads W hW hB (p:Int) n hn hpn)
   have hfine:=Rs.heads_fine (B:=B) n s3 (p:Int) 1048576 [] (by omega) (by simp)
   clear hk3
   generalize Rs.heads B n s3 (p:Int) 1048576 []=HD at*
   obtain⟨s4,H⟩:=HD
   dsimp only at*
   have hHl:H.length≤16:=by have:=hfine.1;simp at this;omega
   have HFN:=hid hfine.2
   clear hfine
   have hUc:=fun (W:World) (hW:RdAt W g B a s4)=>HU.out.call W s4 hW
   have hDl:=HU.out.size s4
   unfold Rs.bblock
   dsimp only
   generalize blk s4=T at*
   obtain⟨s5,D,q⟩:=T
   dsimp only at*
   have HUC:=hid hUc
   clear hUc
   have hDF:=dealF_is H D []
   by_cases hok:sizesN H=D.length
   ·rw[if_pos hok] at hDF
    simp only[if_pos hok]
    rw[List.nil_append] at hDF
    by_cases hk5:s5.k=0
    ·simp only[if_pos hk5]
     have HG5:=hid (fun (W:World) (hW:RdAt W g B a s5)=>(by have:=rd_good W hW;rw[decide_eq_true hk5] at this;exact this:Calls Tryz.prog 151 #[.pointer (some ⟨g,0,none⟩)] W fun r w'=>r=.returned (.bool true)∧Below W.heap.size W w'))
     have HDL:=hid (fun (W:World) (x1 x2 x3 y1 y2 y3 z1 z2 z3)=>entry_deal H D x1 x2 x3 y1 y2 y3 z1 z2 z3 W)
     rw[hDF] at HDL
     simp only[Option.isSome_some,Option.isSome_none,Option.getD_some,Option.getD_none] at HDL
     clear hDF hok hk5
     generalize hdl:dealE H D=EN at*
     clear hdl
     go_enter Tryz.func154,Tryz.ntmps154
     go_wp2_with fail
     refine (HEP.out _ (HIN.out.row (by (repeat (first | with_reducible exact Below.refl _ _ | with_reducible assumption | (with_reducible refine below_alloc ?_ _) | (with_reducible refine Below.setCell ?_ (by first | omega | (simp;done) | (simp;omega)) _) | (with_reducible refine Below.drew ?_) | (with_reducible refine below_drewN ?_ _) | (refine below_then (by with_reducible assumption) ?_))))).rd).mono ?_
     rintro r w1 ⟨rfl,hst1⟩
     have R1:Blk w1 w.heap.size 60 #[.int .u64 0,.int .u64 0,.slice none 0 0]:=Blk.tch (by (repeat (first | assumption | exact Blk.newAt _ _ _ (by first | (simp;done) | (simp;omega)) | refine Blk.alloc ?_ _ | refine Blk.drew ?_ | refine Blk.drewN ?_ _ | refine Blk.far ?_ (by first | (simp;done) | (simp;omega)) _))) hst1.2 (by omega)
     have HIN1:=hid ((HIN.out.row (by (repeat (first | with_reducible exact Below.refl _ _ | with_reducible assumption | (with_reducible refine below_alloc ?_ _) | (with_reducible refine Below.setCell ?_ (by first | omega | (simp;done) | (simp;omega)) _) | (with_reducible refine Below.drew ?_) | (with_reducible refine below_drewN ?_ _) | (refine below_then (by with_reducible assumption) ?_))))).step hst1)
     have hz1:=HIN1.out.tch.size
     clear hst1
     go_wp2_with fail
     refine (HPO.out _ HIN1.out.rd).mono ?_
     rintro r w2 ⟨rfl,hst2⟩
     have R2:Blk w2 w.heap.size 60 #[.int .u64 0,.int .u64 0,.slice none 0 0]:=Blk.tch R1 hst2.2 (by omega)
     have HIN2:=hid (HIN1.out.step hst2)
     have hz2:=HIN2.out.tch.size
     have hr2:=R2.lt
     clear hst2 R1
     go_wp2_with fail
     refine (rd_at _ (HIN2.out.row ((by (repeat (first | with_reducible exact Below.refl _ _ | with_reducible assumption | (with_reducible refine below_alloc ?_ _) | (with_reducible refine Below.setCell ?_ (by first | omega | (simp;done) | (simp;omega)) _) | (with_reducible refine Below.drew ?_) | (with_reducible refine below_drewN ?_ _) | (refine below_then (by with_reducible assumption) ?_))):Below w2.heap.size w2 _).mono hz2)).rd).mono ?_
     rintro r w3 ⟨rfl,rfl⟩
     go_wp2_with fail
     refine (HIT.out _ (HIN2.out.row ((by (repeat (first | with_reducible exact Below.refl _ _ | with_reducible assumption | (with_reducible refine below_alloc ?_ _) | (with_reducible refine Below.setCell ?_ (by first | omega | (simp;done) | (simp;omega)) _) | (with_reducible refine Below.drew ?_) | (with_reducible refine below_drewN ?_ _) | (refine below_then (by with_reducible assumption) ?_))):Below w2.heap.size w2 _).mono hz2)).rd).mono ?_
     rintro r w4 ⟨rfl,hst4⟩
     have R4:Blk w4 w.heap.size 60 #[.int .u64 0,.int .u64 0,.slice none 0 0]:=Blk.tch (Blk.later R2 (by (repeat (first | with_reducible exact Below.refl _ _ | with_reducible assumption | (with_reducible refine below_alloc ?_ _) | (with_reducible refine Below.setCell ?_ (by first | omega | (simp;done) | (simp;omega)) _) | (with_reducible refine Below.drew ?_) | (with_reducible refine below_drewN ?_ _) | (refine below_then (by with_reducible assumption) ?_))):Below w2.heap.size w2 _)) hst4.2 (by omega)
     have B4:Blk w4 w2.heap.size 60 #[.int .u64 (e:Int),.int .u64 (p:Int),.slice none 0 0]:=Blk.tch (by (repeat (first | assumption | exact Blk.newAt _ _ _ (by first | (simp;done) | (simp;omega)) | refine Blk.alloc ?_ _ | refine Blk.drew ?_ | refine Blk.drewN ?_ _ | refine Blk.far ?_ (by first | (simp;done) | (simp;omega)) _))) hst4.2 (by omega)
     have HIN4:=hid ((HIN2.out.row ((by (repeat (first | with_reducible exact Below.refl _ _ | with_reducible assumption | (with_reducible refine below_alloc ?_ _) | (with_reducible refine Below.setCell ?_ (by first | omega | (simp;done) | (simp;omega)) _) | (with_reducible refine Below.drew ?_) | (with_reducible refine below_drewN ?_ _) | (refine below_then (by with_reducible assumption) ?_))):Below w2.heap.size w2 _).mono hz2)).step hst4)
     have hz4:=HIN4.out.tch.size
     have hs4:=hst4.2.size
     simp at hs4
     obtain⟨x0,x1,x2,_,_,_,l4⟩:=b_blk B4
     clear hst4
     go_wp2_with fail
     refine (HF.out _).mono ?_
     rintro r w5 ⟨rfl,rfl⟩
     go_wp2_with fail
     refine (HG.out _ HIN4.out.rd).mono ?_
     rintro r w6 ⟨rfl,hb6⟩
     have B6:=B4.later hb6
     have R6:=R4.later hb6
     have HIN6:=hid (HIN4.out.row (hb6.mono hz4))
     have hz6:=HIN6.out.tch.size
     have hl6:=B6.lt
     obtain⟨y0,y1,y2,_,_,_,_⟩:=b_blk B6
     clear hb6
     go_wp2_with fail
     refine (HHD.out _ HIN6.out.rd).mono ?_
     rintro r w7 ⟨vv,uu,rfl,hH7,hst7⟩
     obtain⟨av,cv,rfl⟩:=HeadsAt.formv hH7
     obtain⟨au,cu,rfl⟩:=own_form hH7.szs
     have B7:Blk w7 w2.heap.size 60 #[.int .u64 (e:Int),.int .u64 (p:Int),.slice none 0 0]:=Blk.tch B6 hst7.2 (by omega)
     have R7:Blk w7 w.heap.size 60 #[.int .u64 0,.int .u64 0,.slice none 0 0]:=Blk.tch R6 hst7.2 (by omega)
     have HIN7:=hid (HIN6.out.step hst7)
     have hz7:=HIN7.out.tch.size
     have HV7:=hid hH7.out
     have HU7:=hid (hH7.ints HFN.out)
     have hz67:=hst7.2.size
     clear hH7 hst7
     go_wp2_with fail
     refine (rd_at _ HIN7.out.rd).mono ?_
     rintro r w8 ⟨rfl,rfl⟩
     go_wp2_with fail
     have HX7:=hid (HU.out.st _ _ _ HX.out (Nat.le_refl _) (HIN7.out.tch.mono fun b _ e=> .inl e))
     rw[HU.out.ent]
     refine (HUC.out _ HIN7.out.rd HX7.out hz7 (HIN7.out.tch.mono fun b _ e=>e ▸ HU.out.own)).mono ?_
     rintro r w9 ⟨v9,rfl,hD9,hRD9,hT9,hX9⟩
     obtain⟨ad,cd,hfv,hD9',_⟩:=sl_form hD9
     simp only[List.cons.injEq,and_true] at hfv
     subst hfv
     have hnk:∀b,w.heap.size≤b→¬K b:=fun b hb hk=>by have:=HU.out.lt b hk;omega
     have B9:Blk w9 w2.heap.size 60 #[.int .u64 (e:Int),.int .u64 (p:Int),.slice none 0 0]:=Blk.tch B7 hT9 (hnk _ hz2)
     have R9:Blk w9 w.heap.size 60 #[.int .u64 0,.int .u64 0,.slice none 0 0]:=Blk.tch R7 hT9 (hnk _ (Nat.le_refl _))
     have hz9:w7.heap.size≤w9.heap.size:=hT9.size
     have HT9:=hid ((HIN7.out.tch.mono fun b _ e=>e ▸ HU.out.own:Tch K w w7).trans hT9 fun b _ e=>e)
     have HH9:=hid (entriesW_entries (rEntriesW.mono (rEntriesW.keep HV7.out (w':=w9) fun b hb=>hT9.block b hb.2 (hnk b (by omega))) (S':=(·<w9.heap.size)) fun b hb=>by omega))
     have HS9:=hid (rI64s.mono (rI64s.keep HU7.out (w':=w9) fun b hb=>hT9.block b hb.2 (hnk b (by omega))) (S':=(·<w9.heap.size)) fun b hb=>by omega)
     have HD9:=hid (rBytes.mono hD9' (S':=(·<w9.heap.size)) fun b hb=>hb.2)
     have HX9:=hid hX9
     have hIN9:RdInv w9 w9 g B a s5:=RdInv.refl hRD9
     have HIN9:=hid hIN9
     clear hD9 hD9' hRD9 hT9 hX9 hIN9 HV7 HU7 B7 R7
     go_wp2_with fail
     refine (HDL.out _ av au ad _ _ _ cv cu cd HH9.out HS9.out HD9.out (by omega) (by omega) (fun h hh=>⟨by have:=(HFN.out h hh).2.1;omega,fun z hz=>by have:=(HFN.out h hh).2.2 z hz;omega⟩)).mono ?_
     rintro r w10 ⟨v10,rfl,hE10,hb10⟩
     obtain⟨ae,ce,hfe,_,_⟩:=sl_form (entriesW_entries hE10)
     simp only[List.cons.injEq,and_true] at hfe
     subst hfe
     have B10:=B9.later hb10
     have R10:=R9.later hb10
     have HIN10:=hid (HIN9.out.row hb10)
     have HE10:=hid hE10
     have hs10:=hb10.size
     have HB10:=hid hb10
     clear hE10 hb10 B9 R9
     go_wp2_with fail
     refine (HG5.out _ HIN10.out.rd).mono ?_
     rintro r w11 ⟨rfl,hb11⟩
     have B11:=B10.later hb11
     have R11:=R10.later hb11
     have RD11:=HIN10.out.rd.blk.later hb11
     have HRO:=hid HIN10.out.rd.ok
     have HB11:=hid hb11
     have hs11:=hb11.size
     obtain⟨x0',x1',x2',e0,e1,e2,l11⟩:=b_blk B11
     obtain⟨z0',z1',z2',f0,f1,f2,m11⟩:=b_blk R11
     clear hb11
     go_wp2
     have RF:Blk ((((w11.setCell ⟨w2.heap.size,2,none⟩ (.slice ae EN.length ce)).setCell ⟨w.heap.size,0,none⟩ (.int .u64 (e:Int))).setCell ⟨w.heap.size,1,none⟩ (.int .u64 (p:Int))).setCell ⟨w.heap.size,2,none⟩ (.slice ae EN.length ce)) w.heap.size 60 #[.int .u64 (e:Int),.int .u64 (p:Int),.slice ae EN.length ce]:=(((Blk.far R11 (by dsimp only;omega) _).set 0 _).set 1 _).set 2 _
     obtain⟨v0,v1,v2,_,_,_,lF⟩:=b_blk RF
     have hTF:Tch (fun b=>w.heap.size≤b) w9 ((((w11.setCell ⟨w2.heap.size,2,none⟩ (.slice ae EN.length ce)).setCell ⟨w.heap.size,0,none⟩ (.int .u64 (e:Int))).setCell ⟨w.heap.size,1,none⟩ (.int .u64 (p:Int))).setCell ⟨w.heap.size,2,none⟩ (.slice ae EN.length ce)):=((((Tch.trans (Tch.of_below (HB10.out.mono (by omega:w.heap.size≤w9.heap.size))) (Tch.of_below (HB11.out.mono (by omega:w.heap.size≤w10.heap.size))) fun b _ h=>h).setCell (fun _=>by dsimp only;omega) _).setCell (fun _=>by dsimp only;omega) _).setCell (fun _=>by dsimp only;omega) _).setCell (fun _=>by dsimp only;omega) _
     have hTK:Tch K w ((((w11.setCell ⟨w2.heap.size,2,none⟩ (.slice ae EN.length ce)).setCell ⟨w.heap.size,0,none⟩ (.int .u64 (e:Int))).setCell ⟨w.heap.size,1,none⟩ (.int .u64 (p:Int))).setCell ⟨w.heap.size,2,none⟩ (.slice ae EN.length ce)):=HT9.out.trans hTF fun b hb hle=>by omega
     have hrd:RdAt ((((w11.setCell ⟨w2.heap.size,2,none⟩ (.slice ae EN.length ce)).setCell ⟨w.heap.size,0,none⟩ (.int .u64 (e:Int))).setCell ⟨w.heap.size,1,none⟩ (.int .u64 (p:Int))).setCell ⟨w.heap.size,2,none⟩ (.slice ae EN.length ce)) g B a s5:=HU.out.rd hTK (Blk.far (Blk.far (Blk.far (Blk.far RD11 (by dsimp only;omega) _) (by dsimp only;omega) _) (by dsimp only;omega) _) (by dsimp only;omega) _) HRO.out
     have hXF:X ((((w11.setCell ⟨w2.heap.size,2,none⟩ (.slice ae EN.length ce)).setCell ⟨w.heap.size,0,none⟩ (.int .u64 (e:Int))).setCell ⟨w.heap.size,1,none⟩ (.int .u64 (p:Int))).setCell ⟨w.heap.size,2,none⟩ (.slice ae EN.length ce)) q:=HU.out.st _ _ _ HX9.out (by omega) (hTF.mono fun b _ hle=> .inr hle)
     have hvF:rEntriesW.r (Fresh w ((((w11.setCell ⟨w2.heap.size,2,none⟩ (.slice ae EN.length ce)).setCell ⟨w.heap.size,0,none⟩ (.int .u64 (e:Int))).setCell ⟨w.heap.size,1,none⟩ (.int .u64 (p:Int))).setCell ⟨w.heap.size,2,none⟩ (.slice ae EN.length ce))) ((((w11.setCell ⟨w2.heap.size,2,none⟩ (.slice ae EN.length ce)).setCell ⟨w.heap.size,0,none⟩ (.int .u64 (e:Int))).setCell ⟨w.heap.size,1,none⟩ (.int .u64 (p:Int))).setCell ⟨w.heap.size,2,none⟩ (.slice ae EN.length ce)) [.slice ae EN.length ce] EN:=rEntriesW.mono (rEntriesW.keep HE10.out (w':=((((w11.setCell ⟨w2.heap.size,2,none⟩ (.slice ae EN.length ce)).setCell ⟨w.heap.size,0,none⟩ (.int .u64 (e:Int))).setCell ⟨w.heap.size,1,none⟩ (.int .u64 (p:Int))).setCell ⟨w.heap.size,2,none⟩ (.slice ae EN.length ce))) fun b hb=>by
      have h1:w9.heap.size≤b:=hb.1
      have h2:b<w10.heap.size:=hb.2
      refine Eq.trans ?_ (HB11.out.block b h2)
      repeat rw[Below.heap_setCell _ _ _ _ (by dsimp only;omega)]) fun b hb=>⟨by have:=hb.1;omega,by have:=hb.2;simp;omega⟩
     refine bodyPost_ret (v:=.agg #[.int .u64 (e:Int),.int .u64 (p:Int),.slice ae EN.length ce]) (by simp[results,Tryz.results154,go_sem,v0,v1,v2,lF]) rfl ⟨_,q,rfl,hvF,hrd,hTK,hXF,fun _=>rfl⟩
    ·simp only[if_neg hk5]
     have HG5:=hid (fun (W:World) (hW:RdAt W g B a s5)=>(by have:=rd_good W hW;rw[decide_eq_false hk5] at this;exact this:Calls Tryz.prog 151 #[.pointer (some ⟨g,0,none⟩)] W fun r w'=>r=.returned (.bool false)∧Below W.heap.size W w'))
     have HDL:=hid (fun (W:World) (x1 x2 x3 y1 y2 y3 z1 z2 z3)=>entry_deal H D x1 x2 x3 y1 y2 y3 z1 z2 z3 W)
     rw[hDF] at HDL
     simp only[Option.isSome_some,Option.isSome_none,Option.getD_some,Option.getD_none] at HDL
     have HK5:=hid hk5
     clear hDF hok hk5
     generalize hdl:dealE H D=EN at*
     clear hdl
     go_enter Tryz.func154,Tryz.ntmps154
     go_wp2_with fail
     refine (HEP.out _ (HIN.out.row (by (repeat (first | with_reducible exact Below.refl _ _ | with_reducible assumption | (with_reducible refine below_alloc ?_ _) | (with_reducible refine Below.setCell ?_ (by first | omega | (simp;done) | (simp;omega)) _) | (with_reducible refine Below.drew ?_) | (with_reducible refine below_drewN ?_ _) | (refine below_then (by with_reducible assumption) ?_))))).rd).mono ?_
     rintro r w1 ⟨rfl,hst1⟩
     have R1:Blk w1 w.heap.size 60 #[.int .u64 0,.int .u64 0,.slice none 0 0]:=Blk.tch (by (repeat (first | assumption | exact Blk.newAt _ _ _ (by first | (simp;done) | (simp;omega)) | refine Blk.alloc ?_ _ | refine Blk.drew ?_ | refine Blk.drewN ?_ _ | refine Blk.far ?_ (by first | (simp;done) | (simp;omega)) _))) hst1.2 (by omega)
     have HIN1:=hid ((HIN.out.row (by (repeat (first | with_reducible exact Below.refl _ _ | with_reducible assumption | (with_reducible refine below_alloc ?_ _) | (with_reducible refine Below.setCell ?_ (by first | omega | (simp;done) | (simp;omega)) _) | (with_reducible refine Below.drew ?_) | (with_reducible refine below_drewN ?_ _) | (refine below_then (by with_reducible assumption) ?_))))).step hst1)
     have hz1:=HIN1.out.tch.size
     clear hst1
     go_wp2_with fail
     refine (HPO.out _ HIN1.out.rd).mono ?_
     rintro r w2 ⟨rfl,hst2⟩
     have R2:Blk w2 w.heap.size 60 #[.int .u64 0,.int .u64 0,.slice none 0 0]:=Blk.tch R1 hst2.2 (by omega)
     have HIN2:=hid (HIN1.out.step hst2)
     have hz2:=HIN2.out.tch.size
     have hr2:=R2.lt
     clear hst2 R1
     go_wp2_with fail
     refine (rd_at _ (HIN2.out.row ((by (repeat (first | with_reducible exact Below.refl _ _ | with_reducible assumption | (with_reducible refine below_alloc ?_ _) | (with_reducible refine Below.setCell ?_ (by first | omega | (simp;done) | (simp;omega)) _) | (with_reducible refine Below.drew ?_) | (with_reducible refine below_drewN ?_ _) | (refine below_then (by with_reducible assumption) ?_))):Below w2.heap.size w2 _).mono hz2)).rd).mono ?_
     rintro r w3 ⟨rfl,rfl⟩
     go_wp2_with fail
     refine (HIT.out _ (HIN2.out.row ((by (repeat (first | with_reducible exact Below.refl _ _ | with_reducible assumption | (with_reducible refine below_alloc ?_ _) | (with_reducible refine Below.setCell ?_ (by first | omega | (simp;done) | (simp;omega)) _) | (with_reducible refine Below.drew ?_) | (with_reducible refine below_drewN ?_ _) | (refine below_then (by with_reducible assumption) ?_))):Below w2.heap.size w2 _).mono hz2)).rd).mono ?_
     rintro r w4 ⟨rfl,hst4⟩
     have R4:Blk w4 w.heap.size 60 #[.int .u64 0,.int .u64 0,.slice none 0 0]:=Blk.tch (Blk.later R2 (by (repeat (first | with_reducible exact Below.refl _ _ | with_reducible assumption | (with_reducible refine below_alloc ?_ _) | (with_reducible refine Below.setCell ?_ (by first | omega | (simp;done) | (simp;omega)) _) | (with_reducible refine Below.drew ?_) | (with_reducible refine below_drewN ?_ _) | (refine below_then (by with_reducible assumption) ?_))):Below w2.heap.size w2 _)) hst4.2 (by omega)
     have B4:Blk w4 w2.heap.size 60 #[.int .u64 (e:Int),.int .u64 (p:Int),.slice none 0 0]:=Blk.tch (by (repeat (first | assumption | exact Blk.newAt _ _ _ (by first | (simp;done) | (simp;omega)) | refine Blk.alloc ?_ _ | refine Blk.drew ?_ | refine Blk.drewN ?_ _ | refine Blk.far ?_ (by first | (simp;done) | (simp;omega)) _))) hst4.2 (by omega)
     have HIN4:=hid ((HIN2.out.row ((by (repeat (first | with_reducible exact Below.refl _ _ | with_reducible assumption | (with_reducible refine below_alloc ?_ _) | (with_reducible refine Below.setCell ?_ (by first | omega | (simp;done) | (simp;omega)) _) | (with_reducible refine Below.drew ?_) | (with_reducible refine below_drewN ?_ _) | (refine below_then (by with_reducible assumption) ?_))):Below w2.heap.size w2 _).mono hz2)).step hst4)
     have hz4:=HIN4.out.tch.size
     have hs4:=hst4.2.size
     simp at hs4
     obtain⟨x0,x1,x2,_,_,_,l4⟩:=b_blk B4
     clear hst4
     go_wp2_with fail
     refine (HF.out _).mono ?_
     rintro r w5 ⟨rfl,rfl⟩
     go_wp2_with fail
     refine (HG.out _ HIN4.out.rd).mono ?_
     rintro r w6 ⟨rfl,hb6⟩
     have B6:=B4.later hb6
     have R6:=R4.later hb6
     have HIN6:=hid (HIN4.out.row (hb6.mono hz4))
     have hz6:=HIN6.out.tch.size
     have hl6:=B6.lt
     obtain⟨y0,y1,y2,_,_,_,_⟩:=b_blk B6
     clear hb6
     go_wp2_with fail
     refine (HHD.out _ HIN6.out.rd).mono ?_
     rintro r w7 ⟨vv,uu,rfl,hH7,hst7⟩
     obtain⟨av,cv,rfl⟩:=HeadsAt.formv hH7
     obtain⟨au,cu,rfl⟩:=own_form hH7.szs
     have B7:Blk w7 w2.heap.size 60 #[.int .u64 (e:Int),.int .u64 (p:Int),.slice none 0 0]:=Blk.tch B6 hst7.2 (by omega)
     have R7:Blk w7 w.heap.size 60 #[.int .u64 0,.int .u64 0,.slice none 0 0]:=Blk.tch R6 hst7.2 (by omega)
     have HIN7:=hid (HIN6.out.step hst7)
     have hz7:=HIN7.out.tch.size
     have HV7:=hid hH7.out
     have HU7:=hid (hH7.ints HFN.out)
     have hz67:=hst7.2.size
     clear hH7 hst7
     go_wp2_with fail
     refine (rd_at _ HIN7.out.rd).mono ?_
     rintro r w8 ⟨rfl,rfl⟩
     go_wp2_with fail
     have HX7:=hid (HU.out.st _ _ _ HX.out (Nat.le_refl _) (HIN7.out.tch.mono fun b _ e=> .inl e))
     rw[HU.out.ent]
     refine (HUC.out _ HIN7.out.rd HX7.out hz7 (HIN7.out.tch.mono fun b _ e=>e ▸ HU.out.own)).mono ?_
     rintro r w9 ⟨v9,rfl,hD9,hRD9,hT9,hX9⟩
     obtain⟨ad,cd,hfv,hD9',_⟩:=sl_form hD9
     simp only[List.cons.injEq,and_true] at hfv
     subst hfv
     have hnk:∀b,w.heap.size≤b→¬K b:=fun b hb hk=>by have:=HU.out.lt b hk;omega
     have B9:Blk w9 w2.heap.size 60 #[.int .u64 (e:Int),.int .u64 (p:Int),.slice none 0 0]:=Blk.tch B7 hT9 (hnk _ hz2)
     have R9:Blk w9 w.heap.size 60 #[.int .u64 0,.int .u64 0,.slice none 0 0]:=Blk.tch R7 hT9 (hnk _ (Nat.le_refl _))
     have hz9:w7.heap.size≤w9.heap.size:=hT9.size
     have HT9:=hid ((HIN7.out.tch.mono fun b _ e=>e ▸ HU.out.own:Tch K w w7).trans hT9 fun b _ e=>e)
     have HH9:=hid (entriesW_entries (rEntriesW.mono (rEntriesW.keep HV7.out (w':=w9) fun b hb=>hT9.block b hb.2 (hnk b (by omega))) (S':=(·<w9.heap.size)) fun b hb=>by omega))
     have HS9:=hid (rI64s.mono (rI64s.keep HU7.out (w':=w9) fun b hb=>hT9.block b hb.2 (hnk b (by omega))) (S':=(·<w9.heap.size)) fun b hb=>by omega)
     have HD9:=hid (rBytes.mono hD9' (S':=(·<w9.heap.size)) fun b hb=>hb.2)
     have HX9:=hid hX9
     have hIN9:RdInv w9 w9 g B a s5:=RdInv.refl hRD9
     have HIN9:=hid hIN9
     clear hD9 hD9' hRD9 hT9 hX9 hIN9 HV7 HU7 B7 R7
     go_wp2_with fail
     refine (HDL.out _ av au ad _ _ _ cv cu cd HH9.out HS9.out HD9.out (by omega) (by omega) (fun h hh=>⟨by have:=(HFN.out h hh).2.1;omega,fun z hz=>by have:=(HFN.out h hh).2.2 z hz;omega⟩)).mono ?_
     rintro r w10 ⟨v10,rfl,hE10,hb10⟩
     obtain⟨ae,ce,hfe,_,_⟩:=sl_form (entriesW_entries hE10)
     simp only[List.cons.injEq,and_true] at hfe
     subst hfe
     have B10:=B9.later hb10
     have R10:=R9.later hb10
     have HIN10:=hid (HIN9.out.row hb10)
     have HE10:=hid hE10
     have hs10:=hb10.size
     have HB10:=hid hb10
     clear hE10 hb10 B9 R9
     have HTX:Hid (Tch (fun b=>b=g∨w.heap.size≤b) w9 w10):=hid ((Tch.of_below (HB10.out.mono (by omega:w.heap.size≤w9.heap.size))).mono fun b _ h=> .inr h)
     go_wp2_with fail
     refine (HG5.out _ HIN10.out.rd).mono ?_
     rintro r w11 ⟨rfl,hb11⟩
     have HB11:=hid hb11
     have R11:=R10.later hb11
     have RD11:=HIN10.out.rd.blk.later hb11
     have HRO:=hid HIN10.out.rd.ok
     have hs11:=hb11.size
     obtain⟨z0',z1',z2',f0,f1,f2,m11⟩:=b_blk R11
     clear hb11
     go_wp2
     have RF:Blk (((w11.setCell ⟨w.heap.size,0,none⟩ (.int .u64 0)).setCell ⟨w.heap.size,1,none⟩ (.int .u64 0)).setCell ⟨w.heap.size,2,none⟩ (.slice none 0 0)) w.heap.size 60 #[.int .u64 0,.int .u64 0,.slice none 0 0]:=((R11.set 0 _).set 1 _).set 2 _
     obtain⟨v0,v1,v2,_,_,_,lF⟩:=b_blk RF
     have hTF:Tch (fun b=>b=g∨w.heap.size≤b) w9 (((w11.setCell ⟨w.heap.size,0,none⟩ (.int .u64 0)).setCell ⟨w.heap.size,1,none⟩ (.int .u64 0)).setCell ⟨w.heap.size,2,none⟩ (.slice none 0 0)):=((((Tch.trans (HTX.out) (Tch.of_below (HB11.out.mono (by omega:w.heap.size≤w10.heap.size))) fun b _ h=> .inr h).setCell (fun _=> .inr (by dsimp only;omega)) _).setCell (fun _=> .inr (by dsimp only;omega)) _).setCell (fun _=> .inr (by dsimp only;omega)) _)
     have hTK:Tch K w (((w11.setCell ⟨w.heap.size,0,none⟩ (.int .u64 0)).setCell ⟨w.heap.size,1,none⟩ (.int .u64 0)).setCell ⟨w.heap.size,2,none⟩ (.slice none 0 0)):=HT9.out.trans hTF fun b hb hle=>by
      rcases hle with rfl | hle
      ·exact HU.out.own
      ·omega
     have hrd:RdAt (((w11.setCell ⟨w.heap.size,0,none⟩ (.int .u64 0)).setCell ⟨w.heap.size,1,none⟩ (.int .u64 0)).setCell ⟨w.heap.size,2,none⟩ (.slice none 0 0)) g B a s5:=HU.out.rd hTK (Blk.far (Blk.far (Blk.far RD11 (by dsimp only;omega) _) (by dsimp only;omega) _) (by dsimp only;omega) _) HRO.out
     have hXF:X (((w11.setCell ⟨w.heap.size,0,none⟩ (.int .u64 0)).setCell ⟨w.heap.size,1,none⟩ (.int .u64 0)).setCell ⟨w.heap.size,2,none⟩ (.slice none 0 0)) q:=HU.out.st _ _ _ HX9.out (by omega) hTF
     refine bodyPost_ret (v:=.agg #[.int .u64 0,.int .u64 0,.slice none 0 0]) (by simp[results,Tryz.results154,go_sem,v0,v1,v2,lF]) rfl ⟨_,q,rfl,⟨none,0,rfl,Nat.le_refl _,Nat.zero_le _,.inl rfl⟩,hrd,hTK,hXF,fun h0=>absurd h0 HK5.out⟩
   ·rw[if_neg hok] at hDF
    simp only[if_neg hok]
    have hk5:(s5.fail 3 (s4.p:Int)).k≠0:=Rs.fail_k (by omega)
    simp only[if_neg hk5]
    have HG5:=hid (fun (W:World) (hW:RdAt W g B a (s5.fail 3 (s4.p:Int)))=>(by have:=rd_good W hW;rw[decide_eq_false hk5] at this;exact this:Calls Tryz.prog 151 #[.pointer (some ⟨g,0,none⟩)] W fun r w'=>r=.returned (.bool false)∧Below W.heap.size W w'))
    have HDL:=hid (fun (W:World) (x1 x2 x3 y1 y2 y3 z1 z2 z3)=>entry_deal H D x1 x2 x3 y1 y2 y3 z1 z2 z3 W)
    rw[hDF] at HDL
    simp only[Option.isSome_some,Option.isSome_none,Option.getD_some,Option.getD_none] at HDL
    have HK5:=hid hk5
    clear hDF hok hk5
    go_enter Tryz.func154,Tryz.ntmps154
    go_wp2_with fail
    refine (HEP.out _ (HIN.out.row (by (repeat (first | with_reducible exact Below.refl _ _ | with_reducible assumption | (with_reducible refine below_alloc ?_ _) | (with_reducible refine Below.setCell ?_ (by first | omega | (simp;done) | (simp;omega)) _) | (with_reducible refine Below.drew ?_) | (with_reducible refine below_drewN ?_ _) | (refine below_then (by with_reducible assumption) ?_))))).rd).mono ?_
    rintro r w1 ⟨rfl,hst1⟩
    have R1:Blk w1 w.heap.size 60 #[.int .u64 0,.int .u64 0,.slice none 0 0]:=Blk.tch (by (repeat (first | assumption | exact Blk.newAt _ _ _ (by first | (simp;done) | (simp;omega)) | refine Blk.alloc ?_ _ | refine Blk.drew ?_ | refine Blk.drewN ?_ _ | refine Blk.far ?_ (by first | (simp;done) | (simp;omega)) _))) hst1.2 (by omega)
    have HIN1:=hid ((HIN.out.row (by (repeat (first | with_reducible exact Below.refl _ _ | with_reducible assumption | (with_reducible refine below_alloc ?_ _) | (with_reducible refine Below.setCell ?_ (by first | omega | (simp;done) | (simp;omega)) _) | (with_reducible refine Below.drew ?_) | (with_reducible refine below_drewN ?_ _) | (refine below_then (by with_reducible assumption) ?_))))).step hst1)
    have hz1:=HIN1.out.tch.size
    clear hst1
    go_wp2_with fail
    refine (HPO.out _ HIN1.out.rd).mono ?_
    rintro r w2 ⟨rfl,hst2⟩
    have R2:Blk w2 w.heap.size 60 #[.int .u64 0,.int .u64 0,.slice none 0 0]:=Blk.tch R1 hst2.2 (by omega)
    have HIN2:=hid (HIN1.out.step hst2)
    have hz2:=HIN2.out.tch.size
    have hr2:=R2.lt
    clear hst2 R1
    go_wp2_with fail
    refine (rd_at _ (HIN2.out.row ((by (repeat (first | with_reducible exact Below.refl _ _ | with_reducible assumption | (with_reducible refine below_alloc ?_ _) | (with_reducible refine Below.setCell ?_ (by first | omega | (simp;done) | (simp;omega)) _) | (with_reducible refine Below.drew ?_) | (with_reducible refine below_drewN ?_ _) | (refine below_then (by with_reducible assumption) ?_))):Below w2.heap.size w2 _).mono hz2)).rd).mono ?_
    rintro r w3 ⟨rfl,rfl⟩
    go_wp2_with fail
    refine (HIT.out _ (HIN2.out.row ((by (repeat (first | with_reducible exact Below.refl _ _ | with_reducible assumption | (with_reducible refine below_alloc ?_ _) | (with_reducible refine Below.setCell ?_ (by first | omega | (simp;done) | (simp;omega)) _) | (with_reducible refine Below.drew ?_) | (with_reducible refine below_drewN ?_ _) | (refine below_then (by with_reducible assumption) ?_))):Below w2.heap.size w2 _).mono hz2)).rd).mono ?_
    rintro r w4 ⟨rfl,hst4⟩
    have R4:Blk w4 w.heap.size 60 #[.int .u64 0,.int .u64 0,.slice none 0 0]:=Blk.tch (Blk.later R2 (by (repeat (first | with_reducible exact Below.refl _ _ | with_reducible assumption | (with_reducible refine below_alloc ?_ _) | (with_reducible refine Below.setCell ?_ (by first | omega | (simp;done) | (simp;omega)) _) | (with_reducible refine Below.drew ?_) | (with_reducible refine below_drewN ?_ _) | (refine below_then (by with_reducible assumption) ?_))):Below w2.heap.size w2 _)) hst4.2 (by omega)
    have B4:Blk w4 w2.heap.size 60 #[.int .u64 (e:Int),.int .u64 (p:Int),.slice none 0 0]:=Blk.tch (by (repeat (first | assumption | exact Blk.newAt _ _ _ (by first | (simp;done) | (simp;omega)) | refine Blk.alloc ?_ _ | refine Blk.drew ?_ | refine Blk.drewN ?_ _ | refine Blk.far ?_ (by first | (simp;done) | (simp;omega)) _))) hst4.2 (by omega)
    have HIN4:=hid ((HIN2.out.row ((by (repeat (first | with_reducible exact Below.refl _ _ | with_reducible assumption | (with_reducible refine below_alloc ?_ _) | (with_reducible refine Below.setCell ?_ (by first | omega | (simp;done) | (simp;omega)) _) | (with_reducible refine Below.drew ?_) | (with_reducible refine below_drewN ?_ _) | (refine below_then (by with_reducible assumption) ?_))):Below w2.heap.size w2 _).mono hz2)).step hst4)
    have hz4:=HIN4.out.tch.size
    have hs4:=hst4.2.size
    simp at hs4
    obtain⟨x0,x1,x2,_,_,_,l4⟩:=b_blk B4
    clear hst4
    go_wp2_with fail
    refine (HF.out _).mono ?_
    rintro r w5 ⟨rfl,rfl⟩
    go_wp2_with fail
    refine (HG.out _ HIN4.out.rd).mono ?_
    rintro r w6 ⟨rfl,hb6⟩
    have B6:=B4.later hb6
    have R6:=R4.later hb6
    have HIN6:=hid (HIN4.out.row (hb6.mono hz4))
    have hz6:=HIN6.out.tch.size
    have hl6:=B6.lt
    obtain⟨y0,y1,y2,_,_,_,_⟩:=b_blk B6
    clear hb6
    go_wp2_with fail
    refine (HHD.out _ HIN6.out.rd).mono ?_
    rintro r w7 ⟨vv,uu,rfl,hH7,hst7⟩
    obtain⟨av,cv,rfl⟩:=HeadsAt.formv hH7
    obtain⟨au,cu,rfl⟩:=own_form hH7.szs
    have B7:Blk w7 w2.heap.size 60 #[.int .u64 (e:Int),.int .u64 (p:Int),.slice none 0 0]:=Blk.tch B6 hst7.2 (by omega)
    have R7:Blk w7 w.heap.size 60 #[.int .u64 0,.int .u64 0,.slice none 0 0]:=Blk.tch R6 hst7.2 (by omega)
    have HIN7:=hid (HIN6.out.step hst7)
    have hz7:=HIN7.out.tch.size
    have HV7:=hid hH7.out
    have HU7:=hid (hH7.ints HFN.out)
    have hz67:=hst7.2.size
    clear hH7 hst7
    go_wp2_with fail
    refine (rd_at _ HIN7.out.rd).mono ?_
    rintro r w8 ⟨rfl,rfl⟩
    go_wp2_with fail
    have HX7:=hid (HU.out.st _ _ _ HX.out (Nat.le_refl _) (HIN7.out.tch.mono fun b _ e=> .inl e))
    rw[HU.out.ent]
    refine (HUC.out _ HIN7.out.rd HX7.out hz7 (HIN7.out.tch.mono fun b _ e=>e ▸ HU.out.own)).mono ?_
    rintro r w9 ⟨v9,rfl,hD9,hRD9,hT9,hX9⟩
    obtain⟨ad,cd,hfv,hD9',_⟩:=sl_form hD9
    simp only[List.cons.injEq,and_true] at hfv
    subst hfv
    have hnk:∀b,w.heap.size≤b→¬K b:=fun b hb hk=>by have:=HU.out.lt b hk;omega
    have B9:Blk w9 w2.heap.size 60 #[.int .u64 (e:Int),.int .u64 (p:Int),.slice none 0 0]:=Blk.tch B7 hT9 (hnk _ hz2)
    have R9:Blk w9 w.heap.size 60 #[.int .u64 0,.int .u64 0,.slice none 0 0]:=Blk.tch R7 hT9 (hnk _ (Nat.le_refl _))
    have hz9:w7.heap.size≤w9.heap.size:=hT9.size
    have HT9:=hid ((HIN7.out.tch.mono fun b _ e=>e ▸ HU.out.own:Tch K w w7).trans hT9 fun b _ e=>e)
    have HH9:=hid (entriesW_entries (rEntriesW.mono (rEntriesW.keep HV7.out (w':=w9) fun b hb=>hT9.block b hb.2 (hnk b (by omega))) (S':=(·<w9.heap.size)) fun b hb=>by omega))
    have HS9:=hid (rI64s.mono (rI64s.keep HU7.out (w':=w9) fun b hb=>hT9.block b hb.2 (hnk b (by omega))) (S':=(·<w9.heap.size)) fun b hb=>by omega)
    have HD9:=hid (rBytes.mono hD9' (S':=(·<w9.heap.size)) fun b hb=>hb.2)
    have HX9:=hid hX9
    have hIN9:RdInv w9 w9 g B a s5:=RdInv.refl hRD9
    have HIN9:=hid hIN9
    clear hD9 hD9' hRD9 hT9 hX9 hIN9 HV7 HU7 B7 R7
    go_wp2_with fail
    refine (HDL.out _ av au ad _ _ _ cv cu cd HH9.out HS9.out HD9.out (by omega) (by omega) (fun h hh=>⟨by have:=(HFN.out h hh).2.1;omega,fun z hz=>by have:=(HFN.out h hh).2.2 z hz;omega⟩)).mono ?_
    rintro r w10 ⟨v10,rfl,hE10,hb10⟩
    obtain⟨ae,ce,hfe,_,_⟩:=sl_form (entriesW_entries hE10)
    simp only[List.cons.injEq,and_true] at hfe
    subst hfe
    have B10:=B9.later hb10
    have R10:=R9.later hb10
    have HIN10:=hid (HIN9.out.row hb10)
    have HE10:=hid hE10
    have hs10:=hb10.size
    have HB10:=hid hb10
    clear hE10 hb10 B9 R9
    go_wp2_with fail
    refine (rd_fail _ HIN10.out.rd 3 (s4.p:Int) (by omega)).mono ?_
    rintro r w12 ⟨rfl,hst12⟩
    have HTX:Hid (Tch (fun b=>b=g∨w.heap.size≤b) w9 w12):=hid (((Tch.of_below (HB10.out.mono (by omega:w.heap.size≤w9.heap.size))).mono fun b _ h=> .inr h).trans hst12.2 fun b _ h=> .inl h)
    have R12:Blk w12 w.heap.size 60 #[.int .u64 0,.int .u64 0,.slice none 0 0]:=Blk.tch R10 hst12.2 (by omega)
    have HIN12:=hid (HIN10.out.step hst12)
    have hs12:=hst12.2.size
    clear hst12
    go_wp2_with fail
    refine (HG5.out _ HIN12.out.rd).mono ?_
    rintro r w11 ⟨rfl,hb11⟩
    have HB11:=hid hb11
    have R11:=R12.later hb11
    have RD11:=HIN12.out.rd.blk.later hb11
    have HRO:=hid HIN12.out.rd.ok
    have hs11:=hb11.size
    obtain⟨z0',z1',z2',f0,f1,f2,m11⟩:=b_blk R11
    clear hb11
    go_wp2
    have RF:Blk (((w11.setCell ⟨w.heap.size,0,none⟩ (.int .u64 0)).setCell ⟨w.heap.size,1,none⟩ (.int .u64 0)).setCell ⟨w.heap.size,2,none⟩ (.slice none 0 0)) w.heap.size 60 #[.int .u64 0,.int .u64 0,.slice none 0 0]:=((R11.set 0 _).set 1 _).set 2 _
    obtain⟨v0,v1,v2,_,_,_,lF⟩:=b_blk RF
    have hTF:Tch (fun b=>b=g∨w.heap.size≤b) w9 (((w11.setCell ⟨w.heap.size,0,none⟩ (.int .u64 0)).setCell ⟨w.heap.size,1,none⟩ (.int .u64 0)).setCell ⟨w.heap.size,2,none⟩ (.slice none 0 0)):=((((Tch.trans (HTX.out) (Tch.of_below (HB11.out.mono (by omega:w.heap.size≤w12.heap.size))) fun b _ h=> .inr h).setCell (fun _=> .inr (by dsimp only;omega)) _).setCell (fun _=> .inr (by dsimp only;omega)) _).setCell (fun _=> .inr (by dsimp only;omega)) _)
    have hTK:Tch K w (((w11.setCell ⟨w.heap.size,0,none⟩ (.int .u64 0)).setCell ⟨w.heap.size,1,none⟩ (.int .u64 0)).setCell ⟨w.heap.size,2,none⟩ (.slice none 0 0)):=HT9.out.trans hTF fun b hb hle=>by
     rcases hle with rfl | hle
     ·exact HU.out.own
     ·omega
    have hrd:RdAt (((w11.setCell ⟨w.heap.size,0,none⟩ (.int .u64 0)).setCell ⟨w.heap.size,1,none⟩ (.int .u64 0)).setCell ⟨w.heap.size,2,none⟩ (.slice none 0 0)) g B a (s5.fail 3 (s4.p:Int)):=HU.out.rd hTK (Blk.far (Blk.far (Blk.far RD11 (by dsimp only;omega) _) (by dsimp only;omega) _) (by dsimp only;omega) _) HRO.out
    have hXF:X (((w11.setCell ⟨w.heap.size,0,none⟩ (.int .u64 0)).setCell ⟨w.heap.size,1,none⟩ (.int .u64 0)).setCell ⟨w.heap.size,2,none⟩ (.slice none 0 0)) q:=HU.out.st _ _ _ HX9.out (by omega) hTF
    refine bodyPost_ret (v:=.agg #[.int .u64 0,.int .u64 0,.slice none 0 0]) (by simp[results,Tryz.results154,go_sem,v0,v1,v2,lF]) rfl ⟨_,q,rfl,⟨none,0,rfl,Nat.le_refl _,Nat.zero_le _,.inl rfl⟩,hrd,hTK,hXF,fun h0=>absurd h0 HK5.out⟩
  ·rw[if_neg hk3]
   have HG:=hid (fun (W:World) (hW:RdAt W g B a s3)=>(by have:=rd_good W hW;rw[decide_eq_false hk3] at this;exact this:Calls Tryz.prog 151 #[.pointer (some ⟨g,0,none⟩)] W fun r w'=>r=.returned (.bool false)∧Below W.heap.size W w'))
   have HK5:=hid hk3
   clear hk3
   go_enter Tryz.func154,Tryz.ntmps154
   go_wp2_with fail
   refine (HEP.out _ (HIN.out.row (by (repeat (first | with_reducible exact Below.refl _ _ | with_reducible assumption | (with_reducible refine below_alloc ?_ _) | (with_reducible refine Below.setCell ?_ (by first | omega | (simp;done) | (simp;omega)) _) | (with_reducible refine Below.drew ?_) | (with_reducible refine below_drewN ?_ _) | (refine below_then (by with_reducible assumption) ?_))))).rd).mono ?_
   rintro r w1 ⟨rfl,hst1⟩
   have R1:Blk w1 w.heap.size 60 #[.int .u64 0,.int .u64 0,.slice none 0 0]:=Blk.tch (by (repeat (first | assumption | exact Blk.newAt _ _ _ (by first | (simp;done) | (simp;omega)) | refine Blk.alloc ?_ _ | refine Blk.drew ?_ | refine Blk.drewN ?_ _ | refine Blk.far ?_ (by first | (simp;done) | (simp;omega)) _))) hst1.2 (by omega)
   have HIN1:=hid ((HIN.out.row (by (repeat (first | with_reducible exact Below.refl _ _ | with_reducible assumption | (with_reducible refine below_alloc ?_ _) | (with_reducible refine Below.setCell ?_ (by first | omega | (simp;done) | (simp;omega)) _) | (with_reducible refine Below.drew ?_) | (with_reducible refine below_drewN ?_ _) | (refine below_then (by with_reducible assumption) ?_))))).step hst1)
   have hz1:=HIN1.out.tch.size
   clear hst1
   go_wp2_with fail
   refine (HPO.out _ HIN1.out.rd).mono ?_
   rintro r w2 ⟨rfl,hst2⟩
   have R2:Blk w2 w.heap.size 60 #[.int .u64 0,.int .u64 0,.slice none 0 0]:=Blk.tch R1 hst2.2 (by omega)
   have HIN2:=hid (HIN1.out.step hst2)
   have hz2:=HIN2.out.tch.size
   have hr2:=R2.lt
   clear hst2 R1
   go_wp2_with fail
   refine (rd_at _ (HIN2.out.row ((by (repeat (first | with_reducible exact Below.refl _ _ | with_reducible assumption | (with_reducible refine below_alloc ?_ _) | (with_reducible refine Below.setCell ?_ (by first | omega | (simp;done) | (simp;omega)) _) | (with_reducible refine Below.drew ?_) | (with_reducible refine below_drewN ?_ _) | (refine below_then (by with_reducible assumption) ?_))):Below w2.heap.size w2 _).mono hz2)).rd).mono ?_
   rintro r w3 ⟨rfl,rfl⟩
   go_wp2_with fail
   refine (HIT.out _ (HIN2.out.row ((by (repeat (first | with_reducible exact Below.refl _ _ | with_reducible assumption | (with_reducible refine below_alloc ?_ _) | (with_reducible refine Below.setCell ?_ (by first | omega | (simp;done) | (simp;omega)) _) | (with_reducible refine Below.drew ?_) | (with_reducible refine below_drewN ?_ _) | (refine below_then (by with_reducible assumption) ?_))):Below w2.heap.size w2 _).mono hz2)).rd).mono ?_
   rintro r w4 ⟨rfl,hst4⟩
   have R4:Blk w4 w.heap.size 60 #[.int .u64 0,.int .u64 0,.slice none 0 0]:=Blk.tch (Blk.later R2 (by (repeat (first | with_reducible exact Below.refl _ _ | with_reducible assumption | (with_reducible refine below_alloc ?_ _) | (with_reducible refine Below.setCell ?_ (by first | omega | (simp;done) | (simp;omega)) _) | (with_reducible refine Below.drew ?_) | (with_reducible refine below_drewN ?_ _) | (refine below_then (by with_reducible assumption) ?_))):Below w2.heap.size w2 _)) hst4.2 (by omega)
   have B4:Blk w4 w2.heap.size 60 #[.int .u64 (e:Int),.int .u64 (p:Int),.slice none 0 0]:=Blk.tch (by (repeat (first | assumption | exact Blk.newAt _ _ _ (by first | (simp;done) | (simp;omega)) | refine Blk.alloc ?_ _ | refine Blk.drew ?_ | refine Blk.drewN ?_ _ | refine Blk.far ?_ (by first | (simp;done) | (simp;omega)) _))) hst4.2 (by omega)
   have HIN4:=hid ((HIN2.out.row ((by (repeat (first | with_reducible exact Below.refl _ _ | with_reducible assumption | (with_reducible refine below_alloc ?_ _) | (with_reducible refine Below.setCell ?_ (by first | omega | (simp;done) | (simp;omega)) _) | (with_reducible refine Below.drew ?_) | (with_reducible refine below_drewN ?_ _) | (refine below_then (by with_reducible assumption) ?_))):Below w2.heap.size w2 _).mono hz2)).step hst4)
   have hz4:=HIN4.out.tch.size
   have hs4:=hst4.2.size
   simp at hs4
   obtain⟨x0,x1,x2,_,_,_,l4⟩:=b_blk B4
   clear hst4
   go_wp2_with fail
   refine (HF.out _).mono ?_
   rintro r w5 ⟨rfl,rfl⟩
   go_wp2_with fail
   refine (HG.out _ HIN4.out.rd).mono ?_
   rintro r w6 ⟨rfl,hb6⟩
   have B6:=B4.later hb6
   have R6:=R4.later hb6
   have HIN6:=hid (HIN4.out.row (hb6.mono hz4))
   obtain⟨y0,y1,y2,f0,f1,f2,l6⟩:=b_blk R6
   clear hb6
   go_wp2
   obtain⟨v0,v1,v2,_,_,_,lF⟩:=b_blk (((R6.set 0 (.int .u64 0)).set 1 (.int .u64 0)).set 2 (.slice none 0 0))
   have hbF:Below w.heap.size w6 (((w6.setCell ⟨w.heap.size,0,none⟩ (.int .u64 0)).setCell ⟨w.heap.size,1,none⟩ (.int .u64 0)).setCell ⟨w.heap.size,2,none⟩ (.slice none 0 0)):=by (repeat (first | with_reducible exact Below.refl _ _ | with_reducible assumption | (with_reducible refine below_alloc ?_ _) | (with_reducible refine Below.setCell ?_ (by first | omega | (simp;done) | (simp;omega)) _) | (with_reducible refine Below.drew ?_) | (with_reducible refine below_drewN ?_ _) | (refine below_then (by with_reducible assumption) ?_)))
   have HINF:=HIN6.out.row hbF
   refine bodyPost_ret (v:=.agg #[.int .u64 0,.int .u64 0,.slice none 0 0]) (by simp[results,Tryz.results154,go_sem,v0,v1,v2,lF]) rfl ⟨_,false,rfl,⟨none,0,rfl,Nat.le_refl _,Nat.zero_le _,.inl rfl⟩,HINF.rd,HINF.tch.mono (fun b _ e=>e ▸ HU.out.own),HU.out.st _ _ _ HX.out (Nat.le_refl _) (HINF.tch.mono fun b _ e=> .inl e),fun e=>absurd e HK5.out⟩
 ·rw[if_neg hfit]
  have HF:=hid (fun (W:World)=>(by have:=batch_fits (p:Int) n W hp1 (by omega);rw[Bool.eq_false_iff.2 hfit] at this;exact this:Calls Tryz.prog 251 #[.int .u64 (p:Int),.int .i64 n] W fun r w'=>r=.returned (.bool false)∧W=w'))
  have hk3:(s3.fail 3 (s2.p:Int)).k≠0:=Rs.fail_k (by omega)
  rw[if_neg hk3]
  have HG:=hid (fun (W:World) (hW:RdAt W g B a (s3.fail 3 (s2.p:Int)))=>(by have:=rd_good W hW;rw[decide_eq_false hk3] at this;exact this:Calls Tryz.prog 151 #[.pointer (some ⟨g,0,none⟩)] W fun r w'=>r=.returned (.bool false)∧Below W.heap.size W w'))
  have HK5:=hid hk3
  clear hk3 hfit
  go_enter Tryz.func154,Tryz.ntmps154
  go_wp2_with fail
  refine (HEP.out _ (HIN.out.row (by (repeat (first | with_reducible exact Below.refl _ _ | with_reducible assumption | (with_reducible refine below_alloc ?_ _) | (with_reducible refine Below.setCell ?_ (by first | omega | (simp;done) | (simp;omega)) _) | (with_reducible refine Below.drew ?_) | (with_reducible refine below_drewN ?_ _) | (refine below_then (by with_reducible assumption) ?_))))).rd).mono ?_
  rintro r w1 ⟨rfl,hst1⟩
  have R1:Blk w1 w.heap.size 60 #[.int .u64 0,.int .u64 0,.slice none 0 0]:=Blk.tch (by (repeat (first | assumption | exact Blk.newAt _ _ _ (by first | (simp;done) | (simp;omega)) | refine Blk.alloc ?_ _ | refine Blk.drew ?_ | refine Blk.drewN ?_ _ | refine Blk.far ?_ (by first | (simp;done) | (simp;omega)) _))) hst1.2 (by omega)
  have HIN1:=hid ((HIN.out.row (by (repeat (first | with_reducible exact Below.refl _ _ | with_reducible assumption | (with_reducible refine below_alloc ?_ _) | (with_reducible refine Below.setCell ?_ (by first | omega | (simp;done) | (simp;omega)) _) | (with_reducible refine Below.drew ?_) | (with_reducible refine below_drewN ?_ _) | (refine below_then (by with_reducible assumption) ?_))))).step hst1)
  have hz1:=HIN1.out.tch.size
  clear hst1
  go_wp2_with fail
  refine (HPO.out _ HIN1.out.rd).mono ?_
  rintro r w2 ⟨rfl,hst2⟩
  have R2:Blk w2 w.heap.size 60 #[.int .u64 0,.int .u64 0,.slice none 0 0]:=Blk.tch R1 hst2.2 (by omega)
  have HIN2:=hid (HIN1.out.step hst2)
  have hz2:=HIN2.out.tch.size
  have hr2:=R2.lt
  clear hst2 R1
  go_wp2_with fail
  refine (rd_at _ (HIN2.out.row ((by (repeat (first | with_reducible exact Below.refl _ _ | with_reducible assumption | (with_reducible refine below_alloc ?_ _) | (with_reducible refine Below.setCell ?_ (by first | omega | (simp;done) | (simp;omega)) _) | (with_reducible refine Below.drew ?_) | (with_reducible refine below_drewN ?_ _) | (refine below_then (by with_reducible assumption) ?_))):Below w2.heap.size w2 _).mono hz2)).rd).mono ?_
  rintro r w3 ⟨rfl,rfl⟩
  go_wp2_with fail
  refine (HIT.out _ (HIN2.out.row ((by (repeat (first | with_reducible exact Below.refl _ _ | with_reducible assumption | (with_reducible refine below_alloc ?_ _) | (with_reducible refine Below.setCell ?_ (by first | omega | (simp;done) | (simp;omega)) _) | (with_reducible refine Below.drew ?_) | (with_reducible refine below_drewN ?_ _) | (refine below_then (by with_reducible assumption) ?_))):Below w2.heap.size w2 _).mono hz2)).rd).mono ?_
  rintro r w4 ⟨rfl,hst4⟩
  have R4:Blk w4 w.heap.size 60 #[.int .u64 0,.int .u64 0,.slice none 0 0]:=Blk.tch (Blk.later R2 (by (repeat (first | with_reducible exact Below.refl _ _ | with_reducible assumption | (with_reducible refine below_alloc ?_ _) | (with_reducible refine Below.setCell ?_ (by first | omega | (simp;done) | (simp;omega)) _) | (with_reducible refine Below.drew ?_) | (with_reducible refine below_drewN ?_ _) | (refine below_then (by with_reducible assumption) ?_))):Below w2.heap.size w2 _)) hst4.2 (by omega)
  have B4:Blk w4 w2.heap.size 60 #[.int .u64 (e:Int),.int .u64 (p:Int),.slice none 0 0]:=Blk.tch (by (repeat (first | assumption | exact Blk.newAt _ _ _ (by first | (simp;done) | (simp;omega)) | refine Blk.alloc ?_ _ | refine Blk.drew ?_ | refine Blk.drewN ?_ _ | refine Blk.far ?_ (by first | (simp;done) | (simp;omega)) _))) hst4.2 (by omega)
  have HIN4:=hid ((HIN2.out.row ((by (repeat (first | with_reducible exact Below.refl _ _ | with_reducible assumption | (with_reducible refine below_alloc ?_ _) | (with_reducible refine Below.setCell ?_ (by first | omega | (simp;done) | (simp;omega)) _) | (with_reducible refine Below.drew ?_) | (with_reducible refine below_drewN ?_ _) | (refine below_then (by with_reducible assumption) ?_))):Below w2.heap.size w2 _).mono hz2)).step hst4)
  have hz4:=HIN4.out.tch.size
  have hs4:=hst4.2.size
  simp at hs4
  obtain⟨x0,x1,x2,_,_,_,l4⟩:=b_blk B4
  clear hst4
  go_wp2_with fail
  refine (HF.out _).mono ?_
  rintro r w5 ⟨rfl,rfl⟩
  go_wp2_with fail
  refine (rd_fail _ HIN4.out.rd 3 (s2.p:Int) (by omega)).mono ?_
  rintro r w7 ⟨rfl,hst7⟩
  have R7:Blk w7 w.heap.size 60 #[.int .u64 0,.int .u64 0,.slice none 0 0]:=Blk.tch R4 hst7.2 (by omega)
  have B7:Blk w7 w2.heap.size 60 #[.int .u64 (e:Int),.int .u64 (p:Int),.slice none 0 0]:=Blk.tch B4 hst7.2 (by omega)
  have HIN7:=hid (HIN4.out.step hst7)
  clear hst7
  go_wp2_with fail
  refine (HG.out _ HIN7.out.rd).mono ?_
  rintro r w6 ⟨rfl,hb6⟩
  have B6:=B7.later hb6
  have R6:=R7.later hb6
  have HIN6:=hid (HIN7.out.row (hb6.mono HIN7.out.tch.size))
  obtain⟨y0,y1,y2,f0,f1,f2,l6⟩:=b_blk R6
  clear hb6
  go_wp2
  obtain⟨v0,v1,v2,_,_,_,lF⟩:=b_blk (((R6.set 0 (.int .u64 0)).set 1 (.int .u64 0)).set 2 (.slice none 0 0))
  have hbF:Below w.heap.size w6 (((w6.setCell ⟨w.heap.size,0,none⟩ (.int .u64 0)).setCell ⟨w.heap.size,1,none⟩ (.int .u64 0)).setCell ⟨w.heap.size,2,none⟩ (.slice none 0 0)):=by (repeat (first | with_reducible exact Below.refl _ _ | with_reducible assumption | (with_reducible refine below_alloc ?_ _) | (with_reducible refine Below.setCell ?_ (by first | omega | (simp;done) | (simp;omega)) _) | (with_reducible refine Below.drew ?_) | (with_reducible refine below_drewN ?_ _) | (refine below_then (by with_reducible assumption) ?_)))
  have HINF:=HIN6.out.row hbF
  refine bodyPost_ret (v:=.agg #[.int .u64 0,.int .u64 0,.slice none 0 0]) (by simp[results,Tryz.results154,go_sem,v0,v1,v2,lF]) rfl ⟨_,false,rfl,⟨none,0,rfl,Nat.le_refl _,Nat.zero_le _,.inl rfl⟩,HINF.rd,HINF.tch.mono (fun b _ e=>e ▸ HU.out.own),HU.out.st _ _ _ HX.out (Nat.le_refl _) (HINF.tch.mono fun b _ e=> .inl e),fun e=>absurd e HK5.out⟩
theorem Rs.take_len{B:List UInt8}{s:Rs}{n:Int}:(s.take B n).2.length≤n.toNat:=by
 unfold Rs.take
 split
 ·simp;omega
 ·simp
theorem Rs.loose_len{B:List UInt8}{s:Rs}{m:Int}:(s.loose B m).2.1.length≤1048576:=by
 have h1:=Rs.int_le (B:=B) (s:=s) (m:=min m 1048576)
 unfold Rs.loose
 split
 ·split
  ·split
   ·have:=Rs.take_len (B:=B) (s:=((s.int B (min m 1048576)).1.byte B).1) (n:=((s.int B (min m 1048576)).2:Int))
    dsimp only
    omega
   ·simp
  ·split
   ·split
    ·have:=Rs.unp_len (B:=B) (s:=((s.int B (min m 1048576)).1.byte B).1) (s.int B (min m 1048576)).2
     dsimp only
     omega
    ·simp
   ·simp
 ·simp
theorem blkS_len{B:List UInt8}(t:Rs):(blkS B t).2.1.length≤1048576:=by
 have:=Rs.loose_len (B:=B) (s:=t) (m:=1048576)
 unfold blkS Rs.strict
 dsimp only
 split
 ·split
  ·exact this
  ·simp
 ·simp
theorem Rs.batch_none{B:List UInt8}{blk:Rs→Rs × List UInt8 × Bool}{s:Rs}(h:(Rs.batch B blk s).1.k≠0):(Rs.batch B blk s).2=(noBatch,false):=by
 unfold Rs.batch at*
 dsimp only at*
 by_cases h1:(s.bfront B).1.k=0
 ·simp only[if_pos h1] at h ⊢
  generalize Rs.bblock blk (Rs.heads B (s.bfront B).2.2.2 (s.bfront B).1 ((s.bfront B).2.2.1:Int) 1048576 [])=U at*
  by_cases h2:U.1.k=0
  ·simp only[if_pos h2] at h ⊢
   exact absurd h2 h
  ·simp only[if_neg h2]
 ·simp only[if_neg h1]
theorem batch_read1(w:World){g p:Nat}{B:List UInt8}{a:Option Addr}{s:Rs}(h:RdAt w g B a s)(hB:B.length≤1000000000)(hp:Blk w p 127 #[.pointer (some ⟨g,0,none⟩)]):
  Calls Tryz.prog 155 #[.pointer (some ⟨p,0,none⟩)] w fun r w'=>∃v,r=.returned v∧rBytes.r (Fresh w w') w' [v] (blkS B s).2.1∧RdStep w g B a (blkS B s).1 w':=by
 have HB:=hid (block_read w h hB 1048576 (by omega))
 have x0:w.cell? ⟨p,0,none⟩=some (.pointer (some ⟨g,0,none⟩)):=hp.cell 0
 unfold blkS
 dsimp only
 generalize Rs.strict (s.loose B 1048576)=T at*
 obtain⟨s1,D⟩:=T
 dsimp only at*
 clear h hp
 go_enter Tryz.func155,Tryz.ntmps155
 go_wp2_with fail
 refine HB.out.mono ?_
 rintro r w1 ⟨v,rfl,hv,hst⟩
 obtain⟨a1,c1,hfv,hv2,_⟩:=sl_form hv
 simp only[List.cons.injEq,and_true] at hfv
 subst hfv
 have HV:=hid hv2
 have HS:=hid hst
 clear hv hv2 hst
 go_wp2
 go_ret
 exact⟨_,rfl,HV.out,HS.out⟩
theorem batch_read(w:World){g:Nat}{B:List UInt8}{a:Option Addr}{s:Rs}(h:RdAt w g B a s)(hB:B.length≤1000000000):
  Calls Tryz.prog 72 #[.pointer (some ⟨g,0,none⟩)] w fun r w'=>∃v,r=.returned (.agg #[.int .u64 (Rs.batch B (blkS B) s).2.1.epoch,.int .u64 (Rs.batch B (blkS B) s).2.1.base,v])∧rEntriesW.r (Fresh w w') w' [v] (Rs.batch B (blkS B) s).2.1.entries∧RdStep w g B a (Rs.batch B (blkS B) s).1 w':=by
 have hlt:=h.blk.lt
 have HIN:=hid (RdInv.refl h)
 clear h
 generalize hZ:Rs.batch B (blkS B) s=Z
 have HZ:=hid hZ
 clear hZ
 obtain⟨s1,b,q⟩:=Z
 obtain⟨e,p,E⟩:=b
 dsimp only at*
 go_enter Tryz.func72,Tryz.ntmps72
 go_wp2_with fail
 have hbw:Below w.heap.size w ((w.alloc (.cells #[.pointer (some ⟨g,0,none⟩)] 127)).alloc (.cells #[.int .u64 0,.int .u64 0,.slice none 0 0] 60)):=by (repeat (first | with_reducible exact Below.refl _ _ | with_reducible assumption | (with_reducible refine below_alloc ?_ _) | (with_reducible refine Below.setCell ?_ (by first | omega | (simp;done) | (simp;omega)) _) | (with_reducible refine Below.drew ?_) | (with_reducible refine below_drewN ?_ _) | (refine below_then (by with_reducible assumption) ?_)))
 have R0:Blk ((w.alloc (.cells #[.pointer (some ⟨g,0,none⟩)] 127)).alloc (.cells #[.int .u64 0,.int .u64 0,.slice none 0 0] 60)) (w.heap.size+1) 60 #[.int .u64 0,.int .u64 0,.slice none 0 0]:=by (repeat (first | assumption | exact Blk.newAt _ _ _ (by first | (simp;done) | (simp;omega)) | refine Blk.alloc ?_ _ | refine Blk.drew ?_ | refine Blk.drewN ?_ _ | refine Blk.far ?_ (by first | (simp;done) | (simp;omega)) _))
 have P0:Blk ((w.alloc (.cells #[.pointer (some ⟨g,0,none⟩)] 127)).alloc (.cells #[.int .u64 0,.int .u64 0,.slice none 0 0] 60)) w.heap.size 127 #[.pointer (some ⟨g,0,none⟩)]:=by (repeat (first | assumption | exact Blk.newAt _ _ _ (by first | (simp;done) | (simp;omega)) | refine Blk.alloc ?_ _ | refine Blk.drew ?_ | refine Blk.drewN ?_ _ | refine Blk.far ?_ (by first | (simp;done) | (simp;omega)) _))
 have HIN0:=hid (HIN.out.row hbw)
 have hsz:((w.alloc (.cells #[.pointer (some ⟨g,0,none⟩)] 127)).alloc (.cells #[.int .u64 0,.int .u64 0,.slice none 0 0] 60)).heap.size=w.heap.size+2:=by simp
 have HBW:=hid hbw
 clear hbw
 generalize ((w.alloc (.cells #[.pointer (some ⟨g,0,none⟩)] 127)).alloc (.cells #[.int .u64 0,.int .u64 0,.slice none 0 0] 60))=W at*
 have hU:Unblock W g B a 155 #[.pointer (some ⟨w.heap.size,0,none⟩)] (blkS B) (·=g) (fun V _=>Blk V w.heap.size 127 #[.pointer (some ⟨g,0,none⟩)]):={
  lt:=fun b e=>by omega
  own:=rfl
  st:=fun V V' q hv hs ht=>Blk.tch hv ht (by omega)
  call:=fun V t hV hX hs ht=>(batch_read1 V hV hB hX).mono fun r V' ⟨v,h1,h2,h3⟩=>⟨v,h1,h2,h3.1,h3.2,Blk.tch hX h3.2 (by omega)⟩
  size:=blkS_len
  dat:=HIN0.out.rd.dat
  ent:=fun xs V=>by go_simp}
 have hC:=batch_read_gen W HIN0.out.rd hB _ _ _ _ _ hU P0
 rw[HZ.out] at hC
 have HC:=hid hC
 clear hU P0 hC
 refine HC.out.mono ?_
 rintro r w1 ⟨v,q1,rfl,hv,hrd,ht,_,_⟩
 obtain⟨a1,c1,hfv,_,_⟩:=sl_form (entriesW_entries hv)
 simp only[List.cons.injEq,and_true] at hfv
 subst hfv
 have R1:=R0.tch ht (by omega)
 have hs1:=ht.size
 have HIN1:=hid (HIN0.out.step ⟨hrd,ht⟩)
 have HV:=hid hv
 obtain⟨x0,x1,x2,f0,f1,f2,l1⟩:=b_blk R1
 clear hv hrd ht
 go_wp2
 obtain⟨v0,v1,v2,_,_,_,lF⟩:=b_blk (((R1.set 0 (.int .u64 e)).set 1 (.int .u64 p)).set 2 (.slice a1 E.length c1))
 have hbF:Below w.heap.size w1 (((w1.setCell ⟨w.heap.size+1,0,none⟩ (.int .u64 e)).setCell ⟨w.heap.size+1,1,none⟩ (.int .u64 p)).setCell ⟨w.heap.size+1,2,none⟩ (.slice a1 E.length c1)):=by (repeat (first | with_reducible exact Below.refl _ _ | with_reducible assumption | (with_reducible refine below_alloc ?_ _) | (with_reducible refine Below.setCell ?_ (by first | omega | (simp;done) | (simp;omega)) _) | (with_reducible refine Below.drew ?_) | (with_reducible refine below_drewN ?_ _) | (refine below_then (by with_reducible assumption) ?_)))
 refine bodyPost_ret (v:=.agg #[.int .u64 e,.int .u64 p,.slice a1 E.length c1]) (by simp[results,Tryz.results72,go_sem,v0,v1,v2,lF]) rfl ⟨_,rfl,?_,(HIN1.out.row hbF).to⟩
 refine rEntriesW.mono (rEntriesW.keep HV.out fun b hb=> ?_) fun b hb=>⟨by have:=hb.1;omega,by have:=hb.2;simp;omega⟩
 have:=hb.1
 repeat rw[Below.heap_setCell _ _ _ _ (by dsimp only;omega)]
structure LInv(w W:World)(B:List UInt8)(a:Option Addr)(c:Nat)(s sf:Rs)(ge:Nat)(D:List UInt8)(aD:Option Addr)(cD:Nat):Prop where
 b0:Blk W w.heap.size 123 #[.slice a B.length c,.int .i64 (s.p:Int),.int .i64 s.k,.int .i64 s.f]
 b1:Blk W (w.heap.size+1) 123 #[.slice none 0 0,.int .i64 0,.int .i64 0,.int .i64 0]
 be:Blk W ge 123 #[.slice a B.length c,.int .i64 (sf.p:Int),.int .i64 sf.k,.int .i64 sf.f]
 lo:w.heap.size+1<ge
 dat:rBytes.r (fun q=>ge<q∧q<W.heap.size) W [.slice aD D.length cD] D
 bel:Below w.heap.size w W
theorem LInv.later{w V V':World}{B:List UInt8}{a:Option Addr}{c:Nat}{s sf:Rs}{ge:Nat}{D:List UInt8}{aD:Option Addr}{cD:Nat}(h:LInv w V B a c s sf ge D aD cD)(hb:Below V.heap.size V V'):LInv w V' B a c s sf ge D aD cD:=
 ⟨h.b0.later hb,h.b1.later hb,h.be.later hb,h.lo,rBytes.mono (rBytes.keep h.dat fun q hq=>hb.block q hq.2) fun q hq=>⟨hq.1,Nat.lt_of_lt_of_le hq.2 hb.size⟩,below_then hb h.bel⟩
theorem LInv.data{w V:World}{B:List UInt8}{a:Option Addr}{c:Nat}{s sf:Rs}{ge:Nat}{D D':List UInt8}{aD aD':Option Addr}{cD cD':Nat}(h:LInv w V B a c s sf ge D aD cD)(hd:rBytes.r (fun q=>ge<q∧q<V.heap.size) V [.slice aD' D'.length cD'] D'):LInv w V B a c s sf ge D' aD' cD':=
 ⟨h.b0,h.b1,h.be,h.lo,hd,h.bel⟩
theorem LInv.set{w V:World}{B:List UInt8}{a:Option Addr}{c:Nat}{s sf:Rs}{ge:Nat}{D:List UInt8}{aD:Option Addr}{cD:Nat}(h:LInv w V B a c s sf ge D aD cD)(t:Rs):
  LInv w ((((V.setCell ⟨ge,0,none⟩ (.slice a B.length c)).setCell ⟨ge,1,none⟩ (.int .i64 (t.p:Int))).setCell ⟨ge,2,none⟩ (.int .i64 t.k)).setCell ⟨ge,3,none⟩ (.int .i64 t.f)) B a c s t ge D aD cD:=by
 have hlo:=h.lo
 refine⟨?_,?_,?_,hlo,?_,?_⟩
 ·exact Blk.far (Blk.far (Blk.far (Blk.far h.b0 (by dsimp only;omega) _) (by dsimp only;omega) _) (by dsimp only;omega) _) (by dsimp only;omega) _
 ·exact Blk.far (Blk.far (Blk.far (Blk.far h.b1 (by dsimp only;omega) _) (by dsimp only;omega) _) (by dsimp only;omega) _) (by dsimp only;omega) _
 ·exact Blk.set (Blk.set (Blk.set (Blk.set h.be 0 _) 1 _) 2 _) 3 _
 ·refine rBytes.mono (rBytes.keep h.dat fun q hq=> ?_) fun q hq=>⟨hq.1,by have:=hq.2;simp[World.setCell];omega⟩
  have hq1:=hq.1
  repeat (rw[Below.heap_setCell _ _ _ _ (by dsimp only;omega)])
 ·have hb:=h.bel
  (repeat (first | with_reducible exact Below.refl _ _ | with_reducible assumption | (with_reducible refine below_alloc ?_ _) | (with_reducible refine Below.setCell ?_ (by first | omega | (simp;done) | (simp;omega)) _) | (with_reducible refine Below.drew ?_) | (with_reducible refine below_drewN ?_ _) | (refine below_then (by with_reducible assumption) ?_)))
structure RefI(w:World)(B:List UInt8)(a:Option Addr)(c:Nat)(m:Msg)(v1 v2 v3 v4:Value)(s:Rs)(W:World):Prop where
 d:Blk W w.heap.size 123 #[.slice a B.length c,.int .i64 (s.p:Int),.int .i64 s.k,.int .i64 s.f]
 r6:Blk W (w.heap.size+1) 123 #[.slice none 0 0,.int .i64 0,.int .i64 0,.int .i64 0]
 r7:Blk W (w.heap.size+1+1) 57 zeroCells
 pm:Blk W (w.heap.size+1+1+1) 57 (bodCells m v1 v2 v3 v4)
 ok:s.ok B.length
 bel:Below w.heap.size w W
 low:w.heap.size+1+1+1+1≤W.heap.size
 st:rU64s.r (fun b=>w.heap.size+1+1+1+1≤b∧b<W.heap.size) W [v1] m.streams
 ln:rLinks.r (fun b=>w.heap.size+1+1+1+1≤b∧b<W.heap.size) W [v2] m.links
 da:rBytes.r (fun b=>w.heap.size+1+1+1+1≤b∧b<W.heap.size) W [v3] m.data
 sp:rStripes.r (fun b=>w.heap.size+1+1+1+1≤b∧b<W.heap.size) W [v4] m.proj.stripes
theorem RefI.later{w:World}{B:List UInt8}{a:Option Addr}{c:Nat}{m:Msg}{v1 v2 v3 v4:Value}{s:Rs}{W:World}(h:RefI w B a c m v1 v2 v3 v4 s W){W':World}(hb:Below W.heap.size W W'):RefI w B a c m v1 v2 v3 v4 s W':=by
 have hk:∀b,w.heap.size+1+1+1+1≤b∧b<W.heap.size→W'.heap[b]? =W.heap[b]? :=fun b hb'=>hb.block b hb'.2
 have hm:∀b,w.heap.size+1+1+1+1≤b∧b<W.heap.size→w.heap.size+1+1+1+1≤b∧b<W'.heap.size:=fun b hb'=>⟨hb'.1,Nat.lt_of_lt_of_le hb'.2 hb.size⟩
 exact⟨h.d.later hb,h.r6.later hb,h.r7.later hb,h.pm.later hb,h.ok,below_then hb h.bel,Nat.le_trans h.low hb.size,rU64s.mono (rU64s.keep h.st hk) hm,rLinks.mono (rLinks.keep h.ln hk) hm,rBytes.mono (rBytes.keep h.da hk) hm,rStripes.mono (rStripes.keep h.sp hk) hm⟩
def Rs.fin(L:Nat)(s:Rs):Rs:=if s.p<L then s.fail 9 s.p else s
theorem rd_end(w:World){g:Nat}{B:List UInt8}{a:Option Addr}{s:Rs}(h:RdAt w g B a s):Calls Tryz.prog 187 #[.pointer (some ⟨g,0,none⟩)] w fun r w'=>r=.returned (.tuple #[])∧RdStep w g B a (s.fin B.length) w':=by
 have HLF:=hid (rd_left w h)
 have HH:=hid h
 have hln:=h.len
 have hle:=h.ok.le
 unfold Rs.fin
 clear h
 by_cases hp:s.p<B.length
 ·rw[if_pos hp]
  have d1:decide ((0:Int)<(B.length:Int)-(s.p:Int))=true:=decide_eq_true (by omega)
  have d2:decide (s.p<B.length)=true:=decide_eq_true hp
  clear hp
  go_enter Tryz.func187,Tryz.ntmps187
  go_wp2_with fail
  refine HLF.out.mono ?_
  rintro r w1 ⟨rfl,hb1⟩
  have HH1:=hid (HH.out.later hb1)
  have x1:=HH1.out.blk.cell 1
  simp at x1
  go_wp2_with fail
  refine (rd_fail w1 HH1.out 9 (s.p:Int) (by omega)).mono ?_
  rintro r w2 ⟨rfl,hst⟩
  have HST:=hid (RdStep.trans (s':=s.fail 9 s.p) (Tch.of_later (F:=(·=g)) hb1) hst)
  clear hst x1
  go_wp2
  first | go_end0 | refine bodyPost_ret (results_none rfl _ _ _) rfl ?_
  exact⟨rfl,HST.out⟩
 ·rw[if_neg hp]
  have d1:decide ((0:Int)<(B.length:Int)-(s.p:Int))=false:=decide_eq_false (by omega)
  have d2:decide (s.p<B.length)=false:=decide_eq_false hp
  clear hp
  go_enter Tryz.func187,Tryz.ntmps187
  go_wp2_with fail
  refine HLF.out.mono ?_
  rintro r w1 ⟨rfl,hb1⟩
  have HST:=hid (RdStep.later HH.out hb1)
  go_wp2
  first | go_end0 | refine bodyPost_ret (results_none rfl _ _ _) rfl ?_
  exact⟨rfl,HST.out⟩
theorem blkS_k{B:List UInt8}(t:Rs)(h:(blkS B t).1.k=0):t.k=0:=by
 by_cases hk:t.k=0
 ·exact hk
 ·have:(blkS B t).1=t:=by
   unfold blkS
   rw[Rs.loose_of_bad hk]
   unfold Rs.strict
   rw[if_neg hk]
  rw[this] at h
  exact h
theorem joined_small{b:Batch}(hR:batchR b=true):(joined b.entries).length≤1048576:=by
 simp only[batchR,Bool.and_eq_true,decide_eq_true_eq] at hR
 rw[joined_length]
 exact hR.2.2.1
theorem blkL_put{b:Batch}(hR:batchR b=true)(B rest:List UInt8)(q:Nat)(h1:q≤B.length)(h2:B.drop q=blockB (joined b.entries)++rest):blkL B ⟨q,0,0⟩=(⟨q+(blockB (joined b.entries)).length,0,0⟩,joined b.entries,true):=by
 have hj:=joined_small hR
 exact Rs.loose_block h2 h1 hj (by omega)
theorem blkS_put{b:Batch}(hR:batchR b=true)(B rest:List UInt8)(q:Nat)(h1:q≤B.length)(h2:B.drop q=blockB (joined b.entries)++rest):blkS B ⟨q,0,0⟩=(⟨q+(blockB (joined b.entries)).length,0,0⟩,joined b.entries,true):=by
 have:=blkL_put hR B rest q h1 h2
 unfold blkL at this
 unfold blkS
 rw[this]
 rfl
theorem Rs.ep_u{B:List UInt8}{s:Rs}:inU ((s.ep B).2:Int):=by
 have:=Rs.num_small (B:=B) (s:=s)
 unfold Rs.ep inU
 split
 ·split
  ·omega
  ·simp
 ·simp
theorem inU_zero:inU 0:=⟨Int.le_refl _,by decide⟩
theorem inI_zero:inI 0:=⟨by decide,by decide⟩
structure MsgB(m:Msg):Prop where
 kind:inI m.kind
 epoch:inU m.epoch
 seq:inU m.seq
 pos:inU m.pos
 count:inI m.count
 state:inI m.state
 sealE:inU m.sea.epoch
 sealN:inU m.sea.node
 sealT:inU m.sea.tail
 projE:inU m.proj.epoch
theorem MsgB.none:MsgB noMsg:=⟨inI_zero,inU_zero,inU_zero,inU_zero,inI_zero,inI_zero,inU_zero,inU_zero,inU_zero,inU_zero⟩
theorem MsgB.to{m:Msg}(h:MsgB m){S:Nat→Prop}{W:World}{a1:Option Addr}{c1:Nat}{a2:Option Addr}{c2:Nat}{a3:Option Addr}{c3:Nat}{a4:Option Addr}{c4:Nat}(h1:rU64s.r S W [.slice a1 m.streams.length c1] m.streams)(h2:rLinks.r S W [.slice a2 m.links.length c2] m.links)(h3:rBytes.r S W [.slice a3 m.data.length c3] m.data)(h4:rStripes.r S W [.slice a4 m.proj.stripes.length c4] m.proj.stripes):
  MsgIn S W m a1 c1 a2 c2 a3 c3 a4 c4:=⟨h.kind,h.epoch,h.seq,h.pos,h.count,h.state,h.sealE,h.sealN,h.sealT,h.projE,h1,h2,h3,h4⟩
theorem MsgIn.put{S:Nat→Prop}{w:World}{m:Msg}{a1:Option Addr}{c1:Nat}{a2:Option Addr}{c2:Nat}{a3:Option Addr}{c3:Nat}{a4:Option Addr}{c4:Nat}{e n:Int}(h:MsgIn S w m a1 c1 a2 c2 a3 c3 a4 c4)(he:inU e)(hn:inU n):MsgIn S w ⟨m.kind,e,n,m.pos,m.count,m.state,m.streams,m.links,m.data,m.sea,m.proj⟩ a1 c1 a2 c2 a3 c3 a4 c4:=
 ⟨h.kind,he,hn,h.pos,h.count,h.state,h.sealE,h.sealN,h.sealT,h.projE,h.streams,h.links,h.data,h.stripes⟩
structure PayI(w:World)(B:List UInt8)(a:Option Addr)(s:Rs)(W:World):Prop where
 rd:RdAt W (w.heap.size+1+1) B a s
 mb:Blk W w.heap.size 57 zeroCells
 fb:Blk W (w.heap.size+1) 31 #[.int .i64 0,.int .i64 0]
 bl:Below w.heap.size w W
section
variable {w W W':World} {B:List UInt8} {a:Option Addr} {s s':Rs}
theorem PayI.step(h:PayI w B a s W)(k:RdStep W (w.heap.size+1+1) B a s' W'):PayI w B a s' W':=
 ⟨k.1,h.mb.tch k.2 (by omega),h.fb.tch k.2 (by omega),h.bl.trans (k.2.to_below h.bl.size fun b hb e=>by omega)⟩
theorem PayI.row(h:PayI w B a s W)(hb:Below W.heap.size W W'):PayI w B a s W':=
 ⟨h.rd.later hb,h.mb.later hb,h.fb.later hb,h.bl.trans (hb.mono h.bl.size)⟩
end
structure OutI(w W:World):Prop where
 mb:Blk W w.heap.size 57 zeroCells
 fb:Blk W (w.heap.size+1) 31 #[.int .i64 0,.int .i64 0]
 bl:Below w.heap.size w W
section
variable {w W W':World}
theorem OutI.row(h:OutI w W)(hb:Below W.heap.size W W'):OutI w W':=
 ⟨h.mb.later hb,h.fb.later hb,h.bl.trans (hb.mono h.bl.size)⟩
theorem OutI.tch(h:OutI w W){g:Nat}(hg:w.heap.size+1<g)(hb:Tch (·=g) W W'):OutI w W':=
 ⟨h.mb.tch hb (by omega),h.fb.tch hb (by omega),h.bl.trans (hb.to_below h.bl.size fun b hb e=>by omega)⟩
end
theorem own_lt2{W:World}{lo:Nat}{e:TypeId}{sz n:Nat}{v:Value}{xs:List Value}(h:W.ownsRow lo e sz v n xs):∀b,v.ownBlock=some b→lo≤b∧b<W.heap.size:=fun b hv=>h.lt b hv
theorem Rs.frame_put{B P rest:List UInt8}{p:Nat}(h:B.drop p=frameB P++rest)(hp:p≤B.length)(hP:P.length≤2097152):(⟨p,0,0⟩:Rs).frame B 2097152=(⟨p+(frameB P).length,0,0⟩,P):=by
 unfold frameB at h
 rw[List.append_assoc] at h
 have h1:=Rs.blob_pre (m:=min 2097152 2097152) (by omega) h hp (by omega)
 have h2:=drop_more h
 have hr:=drop_room h hp
 have h3:=Rs.take_pre h2 (by omega)
 rw[fixedB_len] at h3
 have h4:(⟨p+(blobB P).length,0,0⟩:Rs).take B 4=(⟨p+(blobB P).length+4,0,0⟩,fixedB 4 (crcSum P)):=h3
 have h5:crcSum P=fixN (fixedB 4 (crcSum P)):=by
  rw[fixN_fixedB]
  have:=crcSum_lt P
  omega
 unfold Rs.frame
 rw[h1]
 dsimp only
 rw[h4]
 dsimp only
 rw[if_pos h5,if_pos rfl,frameB_len,Nat.add_assoc]
theorem Rs.fin_zero{L:Nat}{s:Rs}(h:s.ok L)(hk:(s.fin L).k=0):s.k=0∧s.p=L:=by
 have hl:=h.le
 unfold Rs.fin at hk
 split at hk
 ·exact absurd hk (Rs.fail_k (by omega))
 ·exact⟨hk,by omega⟩
theorem Rs.fin_bad{L:Nat}{s:Rs}(h:s.k≠0):s.fin L=s:=by
 unfold Rs.fin
 split
 ·exact Rs.fail_of_bad h
 ·rfl
end Go.Proofs.YtmioakocnebceaaGreat
namespace Go.Bs
open Go.RowKit
structure MarkD where
 pos:Int
 count:Int
 at_:Int
def rMark:Rp MarkD:=rBy (fun m=>(m.pos,m.count,m.at_)) (rPair (rInt .u64) (rPair (rInt .i64) (rInt .i64)))
def rMarks:Rp (List MarkD):=rSl 3 rMark
structure MarkN(m:MarkD):Prop where
 p:0≤m.pos∧m.pos≤18446744073709551615
 c: -9223372036854775808≤m.count∧m.count≤9223372036854775807
 a: -9223372036854775808≤m.at_∧m.at_≤9223372036854775807
theorem i64_wf{n:Int}(h: -9223372036854775808≤n∧n≤9223372036854775807):(Lit.int .i64 n).wf=true:=by
 simp[Lit.wf,IntKind.min,IntKind.max,IntKind.signed,IntKind.bits];omega
theorem mark_cells{S:Nat→Prop}{w:World}{cs:List Value}{x:MarkD}(h:rMark.r S w cs x):cs=[.int .u64 x.pos,.int .i64 x.count,.int .i64 x.at_]∧MarkN x:=by
 obtain⟨c1,c2,rfl,⟨rfl,hw⟩,d1,d2,rfl,⟨rfl,hw2⟩,⟨rfl,hw3⟩⟩:=h
 exact⟨rfl,bounds_u64 hw,bounds_i64 hw2,bounds_i64 hw3⟩
theorem mark_mk{S:Nat→Prop}{w:World}{x:MarkD}(h:MarkN x):rMark.r S w [.int .u64 x.pos,.int .i64 x.count,.int .i64 x.at_] x:=
 ⟨[_],[_,_],rfl,⟨rfl,u64_wf h.p⟩,[_],[_],rfl,⟨rfl,i64_wf h.c⟩,⟨rfl,i64_wf h.a⟩⟩
theorem mark_at{S:Nat→Prop}{w:World}{xs:List MarkD}{a:Option Addr}{n c:Nat}(h:rMarks.r S w [.slice a n c] xs){i:Nat}(hi:i<xs.length):∃b off,a=some ⟨b,off,none⟩∧S b∧w.cell? ⟨b,off+i*3,none⟩=some (.int .u64 xs[i].pos)∧w.cell? ⟨b,off+i*3+1,none⟩=some (.int .i64 xs[i].count)∧w.cell? ⟨b,off+i*3+2,none⟩=some (.int .i64 xs[i].at_)∧MarkN xs[i]:=by
 obtain⟨b,off,e,hS,cs,_,hc,hA⟩:=sl_at h hi
 obtain⟨rfl,hn⟩:=mark_cells hA
 exact⟨b,off,e,hS,hc 0 _ rfl,hc 1 _ rfl,hc 2 _ rfl,hn⟩
def fitsM(m:MarkD)(pos at_:Int):Bool:=decide (1≤m.count)&&(decide (m.count≤16)&&(decide (pos≤m.pos)&&(decide (m.pos<4611686018427387904)&&(decide (m.pos+m.count≤4611686018427387904)&&(decide (at_<m.at_)&&decide (m.at_≤1099511627775))))))
def riseM:Int→Int→List MarkD→Bool
 | _,_,[]=>true
 | p,a,m::l=>fitsM m p a&&riseM (m.pos+m.count) m.at_ l
def marksR(l:List MarkD):Bool:=riseM 0 0 l&&decide (l.length≤16)
theorem fitsM_facts{m:MarkD}{p a:Int}(h:fitsM m p a=true):1≤m.count∧m.count≤16∧p≤m.pos∧m.pos<4611686018427387904∧m.pos+m.count≤4611686018427387904∧a<m.at_∧m.at_≤1099511627775:=by
 simpa only[fitsM,Bool.and_eq_true,decide_eq_true_eq] using h
end Go.Bs
namespace Go.Proofs.YtmioakocnebceaaGreat
open Go.RowKit Go.Bs Go.Maps
theorem index_end(m:MarkD)(hp:0≤m.pos)(hc:0≤m.count∧m.count≤9223372036854775807)(hs:m.pos+m.count≤18446744073709551615)(w:World):
  Calls Tryz.prog 234 #[.agg #[.int .u64 m.pos,.int .i64 m.count,.int .i64 m.at_]] w fun r w'=>r=.returned (.int .u64 (m.pos+m.count))∧Below w.heap.size w w':=by
 obtain⟨p,c,a⟩:=m
 dsimp only at*
 have e1:c%18446744073709551616=c:=by omega
 go_enter Tryz.func234,Tryz.ntmps234
 go_wp2
 go_ret
 exact⟨rfl,by (repeat (first | exact Below.refl _ _ | assumption | (refine below_alloc ?_ _) | (refine Below.setCell ?_ (by first | omega | (simp;done) | (simp;omega)) _) | (refine Below.drew ?_) | (refine below_drewN ?_ _) | (refine below_then (by assumption) ?_)))⟩
theorem index_fits(m:MarkD)(hN:MarkN m)(pos a:Int)(w:World):
  Calls Tryz.prog 328 #[.agg #[.int .u64 m.pos,.int .i64 m.count,.int .i64 m.at_],.int .u64 pos,.int .i64 a] w fun r w'=>r=.returned (.bool (fitsM m pos a))∧Below w.heap.size w w':=by
 by_cases h0:1≤m.count
 ·by_cases h1:m.count≤16
  ·by_cases h2:pos≤m.pos
   ·by_cases h3:m.pos<4611686018427387904
    ·by_cases h4:m.pos+m.count≤4611686018427387904
     ·by_cases h5:a<m.at_
      ·by_cases h6:m.at_≤1099511627775
       ·have d0:decide (1≤m.count)=true:=decide_eq_true h0
        have d1:decide (m.count≤16)=true:=decide_eq_true h1
        have d2:decide (pos≤m.pos)=true:=decide_eq_true h2
        have d3:decide (m.pos<4611686018427387904)=true:=decide_eq_true h3
        have d4:decide (m.pos+m.count≤4611686018427387904)=true:=decide_eq_true h4
        have d5:decide (a<m.at_)=true:=decide_eq_true h5
        have d6:decide (m.at_≤1099511627775)=true:=decide_eq_true h6
        have hff:Hid (fitsM m pos a=true):=hid (by simp only[fitsM,d0,d1,d2,d3,d4,d5,d6,Bool.true_and,Bool.false_and])
        have HE:=hid (fun W:World=>index_end m hN.p.1 ⟨by omega,by omega⟩ (by omega) W)
        clear h0 h1 h2 h3 h4 h5 h6 hN
        obtain⟨mp,mc,ma⟩:=m
        dsimp only at*
        go_enter Tryz.func328,Tryz.ntmps328
        go_wp2_with fail
        refine (HE.out _).mono ?_
        rintro r w1 ⟨rfl,hb1⟩
        have hbox:=(Blk.new w 141 #[.int .u64 mp,.int .i64 mc,.int .i64 ma]).later hb1
        have c2:w1.cell? ⟨w.heap.size,2,none⟩=some (.int .i64 ma):=hbox.cell 2
        clear hbox
        go_wp2
        go_ret
        exact⟨by rw[hff.out];rfl,by (repeat (first | exact Below.refl _ _ | assumption | (refine below_alloc ?_ _) | (refine Below.setCell ?_ (by first | omega | (simp;done) | (simp;omega)) _) | (refine Below.drew ?_) | (refine below_drewN ?_ _) | (refine below_then (by assumption) ?_)))⟩
       ·have d0:decide (1≤m.count)=true:=decide_eq_true h0
        have d1:decide (m.count≤16)=true:=decide_eq_true h1
        have d2:decide (pos≤m.pos)=true:=decide_eq_true h2
        have d3:decide (m.pos<4611686018427387904)=true:=decide_eq_true h3
        have d4:decide (m.pos+m.count≤4611686018427387904)=true:=decide_eq_true h4
        have d5:decide (a<m.at_)=true:=decide_eq_true h5
        have d6:decide (m.at_≤1099511627775)=false:=decide_eq_false h6
        have hff:Hid (fitsM m pos a=false):=hid (by simp only[fitsM,d0,d1,d2,d3,d4,d5,d6,Bool.true_and,Bool.false_and])
        have HE:=hid (fun W:World=>index_end m hN.p.1 ⟨by omega,by omega⟩ (by omega) W)
        clear h0 h1 h2 h3 h4 h5 h6 hN
        obtain⟨mp,mc,ma⟩:=m
        dsimp only at*
        go_enter Tryz.func328,Tryz.ntmps328
        go_wp2_with fail
        refine (HE.out _).mono ?_
        rintro r w1 ⟨rfl,hb1⟩
        have hbox:=(Blk.new w 141 #[.int .u64 mp,.int .i64 mc,.int .i64 ma]).later hb1
        have c2:w1.cell? ⟨w.heap.size,2,none⟩=some (.int .i64 ma):=hbox.cell 2
        clear hbox
        go_wp2
        go_ret
        exact⟨by rw[hff.out];rfl,by (repeat (first | exact Below.refl _ _ | assumption | (refine below_alloc ?_ _) | (refine Below.setCell ?_ (by first | omega | (simp;done) | (simp;omega)) _) | (refine Below.drew ?_) | (refine below_drewN ?_ _) | (refine below_then (by assumption) ?_)))⟩
      ·have d0:decide (1≤m.count)=true:=decide_eq_true h0
       have d1:decide (m.count≤16)=true:=decide_eq_true h1
       have d2:decide (pos≤m.pos)=true:=decide_eq_true h2
       have d3:decide (m.pos<4611686018427387904)=true:=decide_eq_true h3
       have d4:decide (m.pos+m.count≤4611686018427387904)=true:=decide_eq_true h4
       have d5:decide (a<m.at_)=false:=decide_eq_false h5
       have hff:Hid (fitsM m pos a=false):=hid (by simp only[fitsM,d0,d1,d2,d3,d4,d5,Bool.true_and,Bool.false_and])
       have HE:=hid (fun W:World=>index_end m hN.p.1 ⟨by omega,by omega⟩ (by omega) W)
       clear h0 h1 h2 h3 h4 h5 hN
       obtain⟨mp,mc,ma⟩:=m
       dsimp only at*
       go_enter Tryz.func328,Tryz.ntmps328
       go_wp2_with fail
       refine (HE.out _).mono ?_
       rintro r w1 ⟨rfl,hb1⟩
       have hbox:=(Blk.new w 141 #[.int .u64 mp,.int .i64 mc,.int .i64 ma]).later hb1
       have c2:w1.cell? ⟨w.heap.size,2,none⟩=some (.int .i64 ma):=hbox.cell 2
       clear hbox
       go_wp2
       go_ret
       exact⟨by rw[hff.out];rfl,by (repeat (first | exact Below.refl _ _ | assumption | (refine below_alloc ?_ _) | (refine Below.setCell ?_ (by first | omega | (simp;done) | (simp;omega)) _) | (refine Below.drew ?_) | (refine below_drewN ?_ _) | (refine below_then (by assumption) ?_)))⟩
     ·have d0:decide (1≤m.count)=true:=decide_eq_true h0
      have d1:decide (m.count≤16)=true:=decide_eq_true h1
      have d2:decide (pos≤m.pos)=true:=decide_eq_true h2
      have d3:decide (m.pos<4611686018427387904)=true:=decide_eq_true h3
      have d4:decide (m.pos+m.count≤4611686018427387904)=false:=decide_eq_false h4
      have hff:Hid (fitsM m pos a=false):=hid (by simp only[fitsM,d0,d1,d2,d3,d4,Bool.true_and,Bool.false_and])
      have HE:=hid (fun W:World=>index_end m hN.p.1 ⟨by omega,by omega⟩ (by omega) W)
      clear h0 h1 h2 h3 h4 hN
      obtain⟨mp,mc,ma⟩:=m
      dsimp only at*
      go_enter Tryz.func328,Tryz.ntmps328
      go_wp2_with fail
      refine (HE.out _).mono ?_
      rintro r w1 ⟨rfl,hb1⟩
      have hbox:=(Blk.new w 141 #[.int .u64 mp,.int .i64 mc,.int .i64 ma]).later hb1
      have c2:w1.cell? ⟨w.heap.size,2,none⟩=some (.int .i64 ma):=hbox.cell 2
      clear hbox
      go_wp2
      go_ret
      exact⟨by rw[hff.out];rfl,by (repeat (first | exact Below.refl _ _ | assumption | (refine below_alloc ?_ _) | (refine Below.setCell ?_ (by first | omega | (simp;done) | (simp;omega)) _) | (refine Below.drew ?_) | (refine below_drewN ?_ _) | (refine below_then (by assumption) ?_)))⟩
    ·have d0:decide (1≤m.count)=true:=decide_eq_true h0
     have d1:decide (m.count≤16)=true:=decide_eq_true h1
     have d2:decide (pos≤m.pos)=true:=decide_eq_true h2
     have d3:decide (m.pos<4611686018427387904)=false:=decide_eq_false h3
     have hff:Hid (fitsM m pos a=false):=hid (by simp only[fitsM,d0,d1,d2,d3,Bool.true_and,Bool.false_and])
     clear h0 h1 h2 h3 hN
     obtain⟨mp,mc,ma⟩:=m
     dsimp only at*
     go_enter Tryz.func328,Tryz.ntmps328
     go_wp2
     go_ret
     exact⟨by rw[hff.out];rfl,by (repeat (first | exact Below.refl _ _ | assumption | (refine below_alloc ?_ _) | (refine Below.setCell ?_ (by first | omega | (simp;done) | (simp;omega)) _) | (refine Below.drew ?_) | (refine below_drewN ?_ _) | (refine below_then (by assumption) ?_)))⟩
   ·have d0:decide (1≤m.count)=true:=decide_eq_true h0
    have d1:decide (m.count≤16)=true:=decide_eq_true h1
    have d2:decide (pos≤m.pos)=false:=decide_eq_false h2
    have hff:Hid (fitsM m pos a=false):=hid (by simp only[fitsM,d0,d1,d2,Bool.true_and,Bool.false_and])
    clear h0 h1 h2 hN
    obtain⟨mp,mc,ma⟩:=m
    dsimp only at*
    go_enter Tryz.func328,Tryz.ntmps328
    go_wp2
    go_ret
    exact⟨by rw[hff.out];rfl,by (repeat (first | exact Below.refl _ _ | assumption | (refine below_alloc ?_ _) | (refine Below.setCell ?_ (by first | omega | (simp;done) | (simp;omega)) _) | (refine Below.drew ?_) | (refine below_drewN ?_ _) | (refine below_then (by assumption) ?_)))⟩
  ·have d0:decide (1≤m.count)=true:=decide_eq_true h0
   have d1:decide (m.count≤16)=false:=decide_eq_false h1
   have hff:Hid (fitsM m pos a=false):=hid (by simp only[fitsM,d0,d1,Bool.true_and,Bool.false_and])
   clear h0 h1 hN
   obtain⟨mp,mc,ma⟩:=m
   dsimp only at*
   go_enter Tryz.func328,Tryz.ntmps328
   go_wp2
   go_ret
   exact⟨by rw[hff.out];rfl,by (repeat (first | exact Below.refl _ _ | assumption | (refine below_alloc ?_ _) | (refine Below.setCell ?_ (by first | omega | (simp;done) | (simp;omega)) _) | (refine Below.drew ?_) | (refine below_drewN ?_ _) | (refine below_then (by assumption) ?_)))⟩
 ·have d0:decide (1≤m.count)=false:=decide_eq_false h0
  have hff:Hid (fitsM m pos a=false):=hid (by simp only[fitsM,d0,Bool.true_and,Bool.false_and])
  clear h0 hN
  obtain⟨mp,mc,ma⟩:=m
  dsimp only at*
  go_enter Tryz.func328,Tryz.ntmps328
  go_wp2
  go_ret
  exact⟨by rw[hff.out];rfl,by (repeat (first | exact Below.refl _ _ | assumption | (refine below_alloc ?_ _) | (refine Below.setCell ?_ (by first | omega | (simp;done) | (simp;omega)) _) | (refine Below.drew ?_) | (refine below_drewN ?_ _) | (refine below_then (by assumption) ?_)))⟩
theorem riseM_step(p a:Int)(l:List MarkD)(k:Nat)(h:k<l.length):riseM p a (l.drop k)=(fitsM l[k] p a&&riseM (l[k].pos+l[k].count) l[k].at_ (l.drop (k+1))):=by
 rw[List.drop_eq_getElem_cons h];rfl
theorem index_right(l:List MarkD)(al:Option Addr)(nl cl:Nat)(w:World)(hl:rMarks.r (·<w.heap.size) w [.slice al nl cl] l):
  Calls Tryz.prog 233 #[.slice al nl cl] w fun r w'=>r=.returned (.bool (marksR l))∧Below w.heap.size w w':=by
 obtain⟨rfl,hm,_,_⟩:=sl_len hl
 have HL:=hid hl;clear hl
 go_enter Tryz.func233,Tryz.ntmps233
 go_wp2_with fail
 go_loopw [3,4,9] (fun p a i wr=>∃(k:Nat) (pp aa:Int),k≤l.length∧i=.int .i64 k∧p=.int .u64 pp∧a=.int .i64 aa∧Hid (riseM 0 0 l=riseM pp aa (l.drop k))∧Below w.heap.size w wr) (fun _ _ i _=>l.length-(intOf i).toNat)
 case atStart=>exact ⟨0,0,0,Nat.zero_le _,rfl,rfl,rfl,hid rfl,Below.refl _ _⟩
 case round=>
  obtain⟨k,pp,aa,hk,rfl,rfl,rfl,hf,hb⟩:=hrel
  by_cases hlt:k<l.length
  ·obtain⟨b,o,hA,hbb,x0,x1,x2,hN⟩:=mark_at (lift HL.out hb) hlt
   subst hA
   have hst:=hid (riseM_step pp aa l k hlt)
   have i1:(k:Int)<(l.length:Int):=by omega
   generalize l[k]=m at*
   have HF:=hid (fun W:World=>index_fits m hN pp aa W)
   go_wp2_with fail
   refine (HF.out _).mono ?_
   rintro r w1 ⟨rfl,hb1⟩
   have hbox:=(Blk.new wr 141 #[.int .u64 m.pos,.int .i64 m.count,.int .i64 m.at_]).later hb1
   have hb2:Below w.heap.size w w1:=below_then (below_then hb1 (by (repeat (first | exact Below.refl _ _ | assumption | (refine below_alloc ?_ _) | (refine Below.setCell ?_ (by first | omega | (simp;done) | (simp;omega)) _) | (refine Below.drew ?_) | (refine below_drewN ?_ _) | (refine below_then (by assumption) ?_))))) hb
   cases hfm:fitsM m pp aa
   ·have hff:Hid (marksR l=false):=hid (by unfold marksR;rw[hf.out,hst.out,hfm];rfl)
    clear hfm hbox
    go_wp2
    go_ret
    exact⟨by rw[hff.out];rfl,hb2⟩
   ·obtain⟨g1,g2,g3,g4,g5,g6,g7⟩:=fitsM_facts hfm
    have hff:Hid (riseM 0 0 l=riseM (m.pos+m.count) m.at_ (l.drop (k+1))):=hid (by rw[hf.out,hst.out,hfm];rfl)
    have HE:=hid (fun s:Later w1=>index_end m hN.p.1 ⟨by omega,by omega⟩ (by omega) s.at_)
    have Y0:=fun s:Later w1=>s.cell (hbox.cell 0)
    have Y1:=fun s:Later w1=>s.cell (hbox.cell 1)
    have Y2:=fun s:Later w1=>s.cell (hbox.cell 2)
    simp at Y0 Y1 Y2
    clear hfm hbox g1 g2 g3 g4 g5 g6 g7 hN
    go_wp2_with fail
    refine wp_region_later (by kernel_rfl) (by kernel_rfl) ?_
    repeat (go_big_quiet_step ((go_at_call 234;exact later_of (HE.out _))))
    refine wpQuiet_nil ?_
    rintro W5 ⟨⟨W5',hb5⟩,rfl⟩
    go_wp2
    go_roundw
    case rel=>exact ⟨k+1,_,_,by omega,by go_num,rfl,rfl,hff,below_then hb5 hb2⟩
    case measure=>simp [intOf];omega
  ·obtain rfl:k=l.length:=by omega
   have hff:Hid (marksR l=decide ((l.length:Int)≤16)):=hid (by unfold marksR;rw[hf.out,List.drop_length];simp only[riseM,Bool.true_and,decide_eq_decide];omega)
   go_wp2
   go_ret
   exact⟨by rw[hff.out];rfl,hb⟩
end Go.Proofs.YtmioakocnebceaaGreat
namespace Go.Bs
open Go.RowKit
def marksB:Int→Int→List MarkD→List UInt8
 | _,_,[]=>[]
 | p,a,m::l=>varB (m.pos-p).toNat++(varB m.count.toNat++(varB (m.at_-a-1).toNat++marksB (m.pos+m.count) m.at_ l))
def indexB(l:List MarkD):List UInt8:=varB l.length++marksB 0 0 l
theorem marksB_len:∀(l:List MarkD) (p a:Int),(marksB p a l).length≤30*l.length
 | [],_,_=>by simp[marksB]
 | m::l,p,a=>by
  have h1:=(varB_len (m.pos-p).toNat).1
  have h2:=(varB_len m.count.toNat).1
  have h3:=(varB_len (m.at_-a-1).toNat).1
  have h4:=marksB_len l (m.pos+m.count) m.at_
  simp only[marksB,List.length_append,List.length_cons]
  omega
theorem marksB_step(p a:Int)(l:List MarkD)(k:Nat)(h:k<l.length):marksB p a (l.drop k)=varB (l[k].pos-p).toNat++(varB l[k].count.toNat++(varB (l[k].at_-a-1).toNat++marksB (l[k].pos+l[k].count) l[k].at_ (l.drop (k+1)))):=by
 rw[List.drop_eq_getElem_cons h];rfl
def countM(l:List MarkD):Int:=(l.map MarkD.count).sum
theorem countM_step(l:List MarkD)(k:Nat)(h:k<l.length):countM (l.take (k+1))=countM (l.take k)+l[k].count:=by
 rw[List.take_succ_eq_append_getElem h];simp only[countM,List.map_append,List.sum_append,List.map_cons,List.map_nil,List.sum_cons,List.sum_nil];omega
theorem riseM_mem:∀(l:List MarkD) (p a:Int),riseM p a l=true→∀m∈l,1≤m.count∧m.count≤16∧m.pos+m.count≤4611686018427387904
 | [],_,_,_,m,hm=>by cases hm
 | x::l,p,a,h,m,hm=>by
  simp only[riseM,Bool.and_eq_true] at h
  rcases List.mem_cons.1 hm with rfl | hm
  ·obtain⟨h1,h2,_,_,h5,_⟩:=fitsM_facts h.1
   exact⟨h1,h2,h5⟩
  ·exact riseM_mem l _ _ h.2 m hm
theorem countM_le(l:List MarkD)(h:∀m∈l,1≤m.count∧m.count≤16):(l.length:Int)≤countM l∧countM l≤16*l.length:=by
 induction l with
 | nil=>simp [countM]
 | cons m l ih=>
  have h1:=h m (List.mem_cons_self ..)
  have h2:=ih fun x hx=>h x (List.mem_cons_of_mem _ hx)
  simp only[countM,List.map_cons,List.sum_cons,List.length_cons] at h2 ⊢
  omega
end Go.Bs
namespace Go.Proofs.YtmioakocnebceaaGreat
open Go.RowKit Go.Bs Go.Maps
theorem varint_putI(w:World){g base most:Nat}{J:List UInt8}{a:Option Addr}{c:Nat}(h:PenAt w g base most J a c)(x:Int)(hx:0≤x∧x≤18446744073709551615)(hfit:J.length+(varB x.toNat).length≤most)(hlen:J.length+(varB x.toNat).length≤100000000000000):
  Calls Tryz.prog 108 #[.pointer (some ⟨g,0,none⟩),.int .u64 x] w fun r w'=>r=.returned (.tuple #[])∧PenStep w g base most (J++varB x.toNat) a w':=by
 have:=varint_put w h x.toNat (by omega) hfit hlen
 rw[Int.toNat_of_nonneg hx.1] at this
 exact this
theorem PenStep.at{w1 w:World}{g base most:Nat}{J:List UInt8}{a:Option Addr}(h:PenStep w1 g base most J a w):∃a' c',PenAt w g base most J a' c'∧(∀(J':List UInt8) (w':World),PenStep w g base most J' a' w'→PenStep w1 g base most J' a w'):=by
 obtain⟨a',c',h1,h2,h3⟩:=h
 exact⟨a',c',h1,fun J' w' k=>PenStep.trans (J:=J) h2 h3 k⟩
theorem PenStep.blk{w1 w:World}{g base most:Nat}{J:List UInt8}{a:Option Addr}(h:PenStep w1 g base most J a w){b:Nat}{t:TypeId}{cs:Array Value}(hB:Blk w1 b t cs)(hn:¬PenF g a b):Blk w b t cs:=by
 obtain⟨a',c',h1,h2,h3⟩:=h
 exact hB.tch h2 hn
theorem PenStep.tch{w1 w:World}{g base most:Nat}{J:List UInt8}{a:Option Addr}(h:PenStep w1 g base most J a w):Tch (PenF g a) w1 w:=by
 obtain⟨a',c',h1,h2,h3⟩:=h
 exact h2
theorem index_put(w:World){g base most:Nat}{J:List UInt8}{a:Option Addr}{c:Nat}(h:PenAt w g base most J a c)(l:List MarkD)(al:Option Addr)(nl cl:Nat)
  (hl:rMarks.r (fun q=>q<w.heap.size∧¬PenF g a q) w [.slice al nl cl] l) (hR:marksR l=true) (hfit:J.length+(indexB l).length≤most) (hlen:J.length+(indexB l).length≤100000000000000):
  Calls Tryz.prog 334 #[.pointer (some ⟨g,0,none⟩),.slice al nl cl] w fun r w'=>r=.returned (.tuple #[])∧PenStep w g base most (J++indexB l) a w':=by
 obtain⟨rfl,hm,_,_⟩:=sl_len hl
 have HR:=hid (index_right l al _ cl w (rMarks.mono hl fun q hq=>hq.1))
 rw[hR] at HR
 simp only[marksR,Bool.and_eq_true,decide_eq_true_eq] at hR
 have hix:Hid (indexB l=varB l.length++marksB 0 0 l):=hid rfl
 have HLN:Hid (∀D E:List UInt8,indexB l=D++E→J.length+D.length+E.length≤most∧J.length+D.length+E.length≤100000000000000):=hid fun D E e=>by rw[e,List.length_append] at hfit hlen;omega
 have HV:=hid (fun (W:World) (hW:Below w.heap.size w W)=>by
  have h0:=HLN.out _ _ hix.out
  exact varint_put W (h.later hW) l.length (by omega) (by omega) (by omega))
 have HL:=hid hl
 have HRI:=hid hR.1
 have HP:=hid h
 have hl16:=hR.2
 clear h hl hR hfit hlen
 go_enter Tryz.func334,Tryz.ntmps334
 go_wp2_with fail
 refine HR.out.mono ?_
 rintro r w1 ⟨rfl,hb1⟩
 go_wp2_with fail
 refine (HV.out _ hb1).mono ?_
 rintro r w2 ⟨rfl,hs2⟩
 have HS2:=hid (PenStep.later hb1 hs2)
 clear hs2
 go_wp2_with fail
 go_loopw [4,5,20] (fun p at_ i wr=>∃(k:Nat) (pp aa:Int) (D:List UInt8),k≤l.length∧i=.int .i64 k∧p=.int .u64 pp∧at_=.int .i64 aa∧0≤pp∧0≤aa∧Hid (riseM pp aa (l.drop k)=true)∧Hid (indexB l=D++marksB pp aa (l.drop k))∧Hid (PenStep w g base most (J++D) a wr)) (fun _ _ i _=>l.length-(intOf i).toNat)
 case atStart=>exact ⟨0,0,0,_,Nat.zero_le _,rfl,rfl,rfl,by omega,by omega,HRI,hix,HS2⟩
 case round=>
  obtain⟨k,pp,aa,D,hk,rfl,rfl,rfl,hp0,ha0,hri,hD,HST⟩:=hrel
  by_cases hlt:k<l.length
  ·have hrT:=HST.out.tch
   have hsz:=hrT.size
   obtain⟨b,o,hA,hbb,x0,x1,x2,hN⟩:=mark_at (rMarks.keep HL.out fun q hq=>hrT.block q hq.1 hq.2) hlt
   subst hA
   have hst:=riseM_step pp aa l k hlt
   have hms:=hid (marksB_step pp aa l k hlt)
   rw[hri.out] at hst
   generalize l[k]=m at*
   simp only[eq_comm (a:=true),Bool.and_eq_true] at hst
   obtain⟨g1,g2,g3,g4,g5,g6,g7⟩:=fitsM_facts hst.1
   have HRI2:=hid hst.2
   clear hst
   have i1:(k:Int)<(l.length:Int):=by omega
   have i2:=hbb.1
   have hN1:=hN.p
   obtain⟨a3,c3,p3,k3⟩:=HST.out.at
   have K3:=hid k3
   have hno:¬PenF g a3 wr.heap.size:=fun hf=>by
    rw[penF_is] at hf
    rcases hf with e | e
    ·have:=p3.blk.lt;omega
    ·have:=(p3.own_lt (penF_is.2 (.inr e))).2;omega
   have P3:=hid p3
   have HNO:=hid hno
   have hlen:=HLN.out _ _ (hD.out.trans (congrArg (D++ ·) hms.out))
   simp only[List.length_append] at hlen
   clear k3 p3 hno hrT
   go_wp2_with fail
   have hW:Below wr.heap.size wr (wr.alloc (.cells #[.int .u64 m.pos,.int .i64 m.count,.int .i64 m.at_] 141)):=by (repeat (first | exact Below.refl _ _ | assumption | (refine below_alloc ?_ _) | (refine Below.setCell ?_ (by first | omega | (simp;done) | (simp;omega)) _) | (refine Below.drew ?_) | (refine below_drewN ?_ _) | (refine below_then (by assumption) ?_)))
   have hBX:=Blk.new wr 141 #[.int .u64 m.pos,.int .i64 m.count,.int .i64 m.at_]
   generalize wr.alloc (.cells #[.int .u64 m.pos,.int .i64 m.count,.int .i64 m.at_] 141)=W1 at*
   have HBX:=hid hBX
   refine (varint_putI W1 (P3.out.later hW) (m.pos-pp) (by omega) (by simp only[List.length_append];omega) (by simp only[List.length_append];omega)).mono ?_
   rintro r w4 ⟨rfl,hs4⟩
   have HW:=hid hW
   have B4:=hs4.blk HBX.out HNO.out
   have HS4:=hid hs4
   have y1:w4.cell? ⟨wr.heap.size,1,none⟩=some (.int .i64 m.count):=B4.cell 1
   have e1:m.count%18446744073709551616=m.count:=by omega
   clear hs4 B4 hW hBX
   go_wp2_with fail
   obtain⟨a4,c4,p4,k4⟩:=HS4.out.at
   refine (varint_putI w4 p4 m.count (by omega) (by simp only[List.length_append];omega) (by simp only[List.length_append];omega)).mono ?_
   rintro r w5 ⟨rfl,hs5⟩
   have hs5:=k4 _ _ hs5
   have B5:=hs5.blk HBX.out HNO.out
   have HS5:=hid hs5
   have y2:w5.cell? ⟨wr.heap.size,2,none⟩=some (.int .i64 m.at_):=B5.cell 2
   have e2:(m.at_-aa-1)%18446744073709551616=m.at_-aa-1:=by omega
   clear hs5 B5 p4 k4 y1
   go_wp2_with fail
   obtain⟨a5,c5,p5,k5⟩:=HS5.out.at
   refine (varint_putI w5 p5 (m.at_-aa-1) (by omega) (by simp only[List.length_append];omega) (by simp only[List.length_append];omega)).mono ?_
   rintro r w6 ⟨rfl,hs6⟩
   have hs6:=k5 _ _ hs6
   have hbox:=hs6.blk HBX.out HNO.out
   have HS6:=hid (K3.out _ _ (PenStep.later HW.out hs6))
   have HE:=hid (fun s:Later w6=>index_end m hN.p.1 ⟨by omega,by omega⟩ (by omega) s.at_)
   have Y0:=fun s:Later w6=>s.cell (hbox.cell 0)
   have Y1:=fun s:Later w6=>s.cell (hbox.cell 1)
   have Y2:=fun s:Later w6=>s.cell (hbox.cell 2)
   simp at Y0 Y1 Y2
   have hx0:0≤m.pos+m.count:=by omega
   have hx1:0≤m.at_:=by omega
   clear hs6 hbox p5 k5 y2 e2 e1 hlen hN
   go_wp2_with fail
   refine wp_region_later (by kernel_rfl) (by kernel_rfl) ?_
   repeat (go_big_quiet_step ((go_at_call 234;exact later_of (HE.out _))))
   refine wpQuiet_nil ?_
   rintro W5 ⟨⟨W5',hb5⟩,rfl⟩
   go_wp2
   have hst7:=HS6.out.at
   obtain⟨a7,c7,p7,k7⟩:=hst7
   have HS7:=hid (k7 _ _ (PenStep.refl (p7.later hb5) |>fun h=>PenStep.later hb5 h))
   go_roundw
   case rel=>exact ⟨k+1,_,_,D++(varB (m.pos-pp).toNat++(varB m.count.toNat++varB (m.at_-aa-1).toNat)),by omega,by go_num,rfl,rfl,hx0,hx1,HRI2,hid (by rw[hD.out,hms.out];simp),by simpa using HS7⟩
   case measure=>simp [intOf];omega
  ·obtain rfl:k=l.length:=by omega
   have hff:Hid (indexB l=D):=hid (by rw[hD.out,List.drop_length];simp[marksB])
   go_wp2
   first | go_end0 | refine bodyPost_ret (results_none rfl _ _ _) rfl ?_
   exact⟨rfl,by rw[hff.out];exact HST.out⟩
end Go.Proofs.YtmioakocnebceaaGreat
namespace Go.Bs
open Go.RowKit
def endsM(l:List MarkD):Int × Int:=match l.head?,l.getLast? with
 | some a,some b=>(a.pos,b.pos+b.count)
 | _,_=>(0,0)
theorem endsM_some{l:List MarkD}(h:0<l.length):endsM l=(l[0].pos,(l[l.length-1]'(by omega)).pos+(l[l.length-1]'(by omega)).count):=by
 unfold endsM
 rw[List.head?_eq_getElem?,List.getLast?_eq_getElem?,List.getElem?_eq_getElem h,List.getElem?_eq_getElem (by omega)]
end Go.Bs
namespace Go.Proofs.YtmioakocnebceaaGreat
open Go.RowKit Go.Bs Go.Maps
theorem index_bytes(w:World)(l:List MarkD)(al:Option Addr)(nl cl:Nat)(hl:rMarks.r (·<w.heap.size) w [.slice al nl cl] l)(hR:marksR l=true):
  Calls Tryz.prog 244 #[.slice al nl cl] w fun r w'=>∃x,r=.returned (.tuple #[x,.int .i64 0])∧rBytes.r (fun q=>w.heap.size≤q∧q<w'.heap.size) w' [x] (indexB l)∧Below w.heap.size w w':=by
 obtain⟨rfl,_,_,_⟩:=sl_len hl
 have hlb:(indexB l).length≤1024:=by
  have h1:=(varB_len l.length).1
  have h2:=marksB_len l 0 0
  have h3:=hR
  simp only[marksR,Bool.and_eq_true,decide_eq_true_eq] at h3
  simp only[indexB,List.length_append]
  omega
 have HN:=hid (fun W:World=>pen_new W 1024 (by omega))
 have HP:=hid (fun (W:World) (g:Nat) (h:PenAt W g g 1024 [] none 0) (h1:rMarks.r (fun q=>q<W.heap.size∧¬PenF g none q) W [.slice al l.length cl] l)=>index_put W h l al _ cl h1 hR (by simpa using hlb) (by simp;omega))
 have HD:=hid hl
 generalize indexB l=K at*
 clear hl hR
 go_enter Tryz.func244,Tryz.ntmps244
 go_wp2_with fail
 refine (HN.out w).mono ?_
 rintro r w2 ⟨rfl,hp2,hb2⟩
 have hz2:=hb2.size
 have HQ:=hid (HP.out w2 _ hp2 (rMarks.mono (rMarks.keep HD.out fun q hq=>hb2.block q hq) fun q hq=>⟨by omega,by rw[penF_is];rintro (e | e);omega;cases e⟩))
 clear hp2
 go_wp2_with fail
 refine HQ.out.mono ?_
 rintro r w3 ⟨rfl,hs3⟩
 have K3:Hid (PenOk w2 w.heap.size 1024 K w3):=hid hs3
 clear hs3 HQ
 go_wp2_with fail
 obtain⟨a7,b7,p7,k7,_⟩:=K3.out.at
 refine (pen_bytes w3 p7).mono ?_
 rintro r w8 ⟨x,rfl,hr,hb8⟩
 have hbw:=K3.out.below hb2 (by omega)
 have HR:=hid hr
 clear hr k7 p7
 go_wp2
 go_ret2
 exact⟨_,rfl,rBytes.mono HR.out fun q hq=>⟨by have:=hbw.size;omega,hq.2⟩,below_then hb8 hbw⟩
theorem index_entries(w:World)(l:List MarkD)(al:Option Addr)(nl cl:Nat)(hl:rMarks.r (·<w.heap.size) w [.slice al nl cl] l)(hR:marksR l=true):
  Calls Tryz.prog 330 #[.slice al nl cl] w fun r w'=>r=.returned (.int .i64 (countM l))∧Below w.heap.size w w':=by
 obtain⟨rfl,hm,_,_⟩:=sl_len hl
 have HR:=hid (index_right l al _ cl w hl)
 rw[hR] at HR
 simp only[marksR,Bool.and_eq_true,decide_eq_true_eq] at hR
 have HM:=hid (fun m hm=>riseM_mem l 0 0 hR.1 m hm)
 have HL:=hid hl
 have h16:=hR.2
 clear hl hR
 go_enter Tryz.func330,Tryz.ntmps330
 go_wp2_with fail
 refine HR.out.mono ?_
 rintro r w1 ⟨rfl,hb1⟩
 go_wp2_with fail
 go_loopw [3,11] (fun n i wr=>∃(k:Nat) (s:Int),k≤l.length∧i=.int .i64 k∧n=.int .i64 s∧Hid (countM (l.take k)=s)∧0≤s∧s≤16*k∧Below w.heap.size w wr) (fun _ i _=>l.length-(intOf i).toNat)
 case atStart=>exact ⟨0,0,Nat.zero_le _,rfl,rfl,hid rfl,by omega,by omega,hb1⟩
 case round=>
  obtain⟨k,s,hk,rfl,rfl,hf,hs0,hs1,hb⟩:=hrel
  by_cases hlt:k<l.length
  ·obtain⟨b,o,hA,hbb,x0,x1,x2,hN⟩:=mark_at (lift HL.out hb) hlt
   subst hA
   have hst:=hid (countM_step l k hlt)
   obtain⟨g1,g2,_⟩:=HM.out _ (List.getElem_mem hlt)
   generalize l[k]=m at*
   have i1:(k:Int)<(l.length:Int):=by omega
   go_wp2
   go_roundw
   case rel=>exact ⟨k+1,_,by omega,by go_num,rfl,hid (by rw[hst.out,hf.out]),by omega,by omega,by (repeat (first | exact Below.refl _ _ | assumption | (refine below_alloc ?_ _) | (refine Below.setCell ?_ (by first | omega | (simp;done) | (simp;omega)) _) | (refine Below.drew ?_) | (refine below_drewN ?_ _) | (refine below_then (by assumption) ?_)))⟩
   case measure=>simp [intOf];omega
  ·obtain rfl:k=l.length:=by omega
   have hff:Hid (countM l=s):=hid (by rw[←hf.out,List.take_length])
   go_wp2
   go_ret
   exact⟨by rw[hff.out];rfl,hb⟩
theorem index_ends(w:World)(l:List MarkD)(al:Option Addr)(nl cl:Nat)(hl:rMarks.r (·<w.heap.size) w [.slice al nl cl] l)(hR:marksR l=true):
  Calls Tryz.prog 329 #[.slice al nl cl] w fun r w'=>r=.returned (.tuple #[.int .u64 (endsM l).1,.int .u64 (endsM l).2])∧Below w.heap.size w w':=by
 obtain⟨rfl,hm,_,_⟩:=sl_len hl
 rcases Nat.eq_zero_or_pos l.length with h0 | h0
 ·obtain rfl:=List.eq_nil_of_length_eq_zero h0
  clear hl h0
  go_enter Tryz.func329,Tryz.ntmps329
  go_wp2
  go_ret2
  exact⟨rfl,by (repeat (first | exact Below.refl _ _ | assumption | (refine below_alloc ?_ _) | (refine Below.setCell ?_ (by first | omega | (simp;done) | (simp;omega)) _) | (refine Below.drew ?_) | (refine below_drewN ?_ _) | (refine below_then (by assumption) ?_)))⟩
 ·have HR:=hid (index_right l al _ cl w hl)
  rw[hR] at HR
  simp only[marksR,Bool.and_eq_true,decide_eq_true_eq] at hR
  have HL:=hid hl
  have hen:=hid (endsM_some h0)
  obtain⟨b,o,hA,hbb,x0,_,_,hN⟩:=mark_at hl h0
  obtain⟨b2,o2,hA2,hbb2,z0,z1,z2,hN2⟩:=mark_at (i:=l.length-1) hl (by omega)
  subst hA
  simp only[Option.some.injEq,Addr.mk.injEq,and_true] at hA2
  obtain⟨rfl,rfl⟩:=hA2
  obtain⟨g1,g2,g3⟩:=riseM_mem l 0 0 hR.1 _ (List.getElem_mem (show l.length-1<l.length by omega))
  generalize l[0]=m0 at*
  generalize l[l.length-1]=m1 at*
  simp only[Nat.zero_mul,Nat.add_zero] at x0
  obtain⟨n,hn⟩:∃n,l.length=n+1:=⟨l.length-1,by omega⟩
  generalize endsM l=E at*
  clear hl hR hbb2 HL
  generalize l.length=L at*
  subst hn
  simp only[Nat.add_sub_cancel] at z0 z1 z2
  have hE:=hen.out
  subst hE
  dsimp only
  have d0:(((n+1:Nat):Int)==0)=false:=beq_eq_false_iff_ne.2 (by omega)
  have d1:((n+1:Nat):Int)=(n:Int)+1:=by omega
  rw[d1] at d0
  have hw:wrap64 (n:Int)=n:=by
   unfold wrap64;omega
  have i1:(n:Int)<(n:Int)+1:=by omega
  have i0:(0:Int)<(n:Int)+1:=by omega
  clear hen
  go_enter Tryz.func329,Tryz.ntmps329
  go_wp2_with fail
  refine HR.out.mono ?_
  rintro r w1 ⟨rfl,hb1⟩
  have HE:=hid (fun s:Later w1=>index_end m1 hN2.p.1 ⟨by omega,by omega⟩ (by omega) s.at_)
  have Y0:=fun s:Later w1=>s.cell ((hb1.cell (p:=⟨b,o,none⟩) hbb).trans x0)
  have Y1:=fun s:Later w1=>s.cell ((hb1.cell (p:=⟨b,o+n*3,none⟩) hbb).trans z0)
  have Y2:=fun s:Later w1=>s.cell ((hb1.cell (p:=⟨b,o+n*3+1,none⟩) hbb).trans z1)
  have Y3:=fun s:Later w1=>s.cell ((hb1.cell (p:=⟨b,o+n*3+2,none⟩) hbb).trans z2)
  go_wp2_with fail
  refine wp_region_later (by kernel_rfl) (by kernel_rfl) ?_
  repeat (go_big_quiet_step ((go_at_call 234;exact later_of (HE.out _))))
  refine wpQuiet_nil ?_
  rintro W5 ⟨⟨W5',hb5⟩,rfl⟩
  go_wp2
  go_ret2
  exact⟨rfl,below_then hb5 hb1⟩
end Go.Proofs.YtmioakocnebceaaGreat
namespace Go.Bs
open Go.RowKit
structure FootD where
 ep:Int
 n:Int
 en:Int
 first:Int
 fin:Int
 at_:Int
 size:Int
def FootD.val(f:FootD):Array Value:=#[.int .u64 f.ep,.int .i64 f.n,.int .i64 f.en,.int .u64 f.first,.int .u64 f.fin,.int .i64 f.at_,.int .i64 f.size]
structure FootR(f:FootD):Prop where
 ep:epR f.ep=true
 n0:0≤f.n
 n1:f.n≤16
 en0:f.n≤f.en
 en1:f.en≤f.n*16
 at0:1≤f.at_
 at1:f.at_≤1099511627775
 sz0:1≤f.size
 sz1:f.size≤2097152
 sp:if f.n=0 then f.first=0∧f.fin=0 else 0≤f.first∧f.first<f.fin∧f.fin≤4611686018427387904∧f.en≤f.fin-f.first
def FootD.nums(f:FootD):List Int:=[f.n,f.en,f.first,f.fin,f.at_,f.size]
theorem FootR.nums{f:FootD}(h:FootR f):∀x∈f.nums,0≤x∧x≤18446744073709551615:=by
 obtain⟨_,h1,h2,h3,h4,h5,h6,h7,h8,h9⟩:=h
 intro x hx
 simp only[FootD.nums,List.mem_cons,List.not_mem_nil,or_false] at hx
 split at h9<;>rcases hx with rfl | rfl | rfl | rfl | rfl | rfl<;>omega
end Go.Bs
namespace Go.Proofs.YtmioakocnebceaaGreat
open Go.RowKit Go.Bs Go.Maps
def footP(f:FootD):List UInt8:=[3]++varB f.ep.toNat++numsB f.nums
theorem footP_len(f:FootD):(footP f).length≤71:=by
 have h1:=(varB_len f.ep.toNat).1
 have h2:=numsB_len f.nums
 simp only[footP,List.length_append,List.length_cons,List.length_nil,FootD.nums] at h2 ⊢
 omega
theorem footer_spans(f:FootD)(hR:FootR f)(w:World):
  Calls Tryz.prog 391 #[.agg f.val] w fun r w'=>r=.returned (.bool true)∧Below w.heap.size w w':=by
 obtain⟨_,h1,h2,h3,h4,h5,h6,h7,h8,h9⟩:=hR
 obtain⟨ep,n,en,fi,fe,a,s⟩:=f
 dsimp only[FootD.val] at*
 by_cases h0:n=0
 ·subst h0
  rw[if_pos rfl] at h9
  obtain⟨rfl,rfl⟩:=h9
  clear h1 h2 h3 h4 h5 h6 h7 h8
  go_enter Tryz.func391,Tryz.ntmps391
  go_wp2
  go_ret
  exact⟨rfl,by (repeat (first | exact Below.refl _ _ | assumption | (refine below_alloc ?_ _) | (refine Below.setCell ?_ (by first | omega | (simp;done) | (simp;omega)) _) | (refine Below.drew ?_) | (refine below_drewN ?_ _) | (refine below_then (by assumption) ?_)))⟩
 ·rw[if_neg h0] at h9
  have d0:(n==0)=false:=beq_eq_false_iff_ne.2 h0
  have d1:decide (fi<fe)=true:=decide_eq_true (by omega)
  have d2:decide (fe≤4611686018427387904)=true:=decide_eq_true (by omega)
  have d3:decide (en≤fe-fi)=true:=decide_eq_true (by omega)
  have e1:en%18446744073709551616=en:=by omega
  have e2:0≤fe-fi∧fe-fi≤18446744073709551615:=by omega
  go_enter Tryz.func391,Tryz.ntmps391
  go_wp2
  go_ret
  exact⟨rfl,by (repeat (first | exact Below.refl _ _ | assumption | (refine below_alloc ?_ _) | (refine Below.setCell ?_ (by first | omega | (simp;done) | (simp;omega)) _) | (refine Below.drew ?_) | (refine below_drewN ?_ _) | (refine below_then (by assumption) ?_)))⟩
theorem footer_right(f:FootD)(hR:FootR f)(w:World):
  Calls Tryz.prog 357 #[.agg f.val] w fun r w'=>r=.returned (.bool true)∧Below w.heap.size w w':=by
 have HS:=hid (fun W:World=>footer_spans f hR W)
 obtain⟨h0,h1,h2,h3,h4,h5,h6,h7,h8,_⟩:=hR
 obtain⟨ep,n,en,fi,fe,a,s⟩:=f
 dsimp only[FootD.val] at*
 have HE:=hid (epoch_right ep)
 rw[h0] at HE
 have d1:decide (0≤n)=true:=decide_eq_true h1
 have d2:decide (n≤16)=true:=decide_eq_true h2
 have d3:decide (n≤en)=true:=decide_eq_true h3
 have d4:decide (en≤n*16)=true:=decide_eq_true h4
 have d5:decide (1≤a)=true:=decide_eq_true h5
 have d6:decide (a≤1099511627775)=true:=decide_eq_true h6
 have d7:decide (1≤s)=true:=decide_eq_true h7
 have d8:decide (s≤2097152)=true:=decide_eq_true h8
 clear h0
 go_enter Tryz.func357,Tryz.ntmps357
 go_wp2_with fail
 refine (HE.out _).mono ?_
 rintro r w1 ⟨rfl,rfl⟩
 go_wp2_with fail
 refine (HS.out _).mono ?_
 rintro r w1 ⟨rfl,hb1⟩
 go_wp2
 go_ret
 exact⟨rfl,by (repeat (first | exact Below.refl _ _ | assumption | (refine below_alloc ?_ _) | (refine Below.setCell ?_ (by first | omega | (simp;done) | (simp;omega)) _) | (refine Below.drew ?_) | (refine below_drewN ?_ _) | (refine below_then (by assumption) ?_)))⟩
theorem footer_payload(f:FootD)(hR:FootR f)(w:World):
  Calls Tryz.prog 335 #[.agg f.val] w fun r w'=>∃x,r=.returned (.tuple #[x,.int .i64 0])∧rBytes.r (fun q=>w.heap.size≤q∧q<w'.heap.size) w' [x] (footP f)∧Below w.heap.size w w':=by
 have HRT:=hid (fun W:World=>footer_right f hR W)
 have HNB:=hid hR.nums
 have hpl:=footP_len f
 have hpe:Hid (footP f=[3]++varB f.ep.toNat++numsB f.nums):=hid rfl
 have hep:=hR.ep
 have hep':=hep
 simp only[epR,decide_eq_true_eq] at hep'
 obtain⟨_,h1,h2,h3,h4,h5,h6,h7,h8,_⟩:=hR
 have hvl:=(varB_len f.ep.toNat).1
 have hnl:Hid (f.nums.length=6):=hid rfl
 have hcs:Hid ((u64Cells f.nums).toArray=#[.int .u64 f.n,.int .u64 f.en,.int .u64 f.first,.int .u64 f.fin,.int .u64 f.at_,.int .u64 f.size]):=hid rfl
 have hst:=hid (fun k h=>numsB_step f.nums k h)
 have hle:Hid (∀k (h:k<f.nums.length),(numsB (f.nums.take k)).length+(varB (f.nums[k]'h).toNat).length≤60):=hid fun k h=>by
  have e:=congrArg List.length (numsB_step f.nums k h)
  have e2:=numsB_len (f.nums.take (k+1))
  rw[List.length_append] at e
  have e3:(f.nums.take (k+1)).length≤6:=by rw[List.length_take];simp[FootD.nums];omega
  omega
 generalize footP f=K at*
 generalize f.nums=xs at*
 obtain⟨ep,n,en,fi,fe,at_,s⟩:=f
 dsimp only[FootD.val] at*
 have e1:n%18446744073709551616=n:=by omega
 have e2:en%18446744073709551616=en:=by omega
 have e3:at_%18446744073709551616=at_:=by omega
 have e4:s%18446744073709551616=s:=by omega
 have HN:=hid (fun W:World=>pen_new W 80 (by omega))
 go_enter Tryz.func335,Tryz.ntmps335
 go_wp2_with fail
 refine (HN.out _).mono ?_
 rintro r w2 ⟨rfl,hp2,hb2⟩
 have hbox:=(Blk.new w 152 #[.int .u64 ep,.int .i64 n,.int .i64 en,.int .u64 fi,.int .u64 fe,.int .i64 at_,.int .i64 s]).later hb2
 have hbw2:Below w.heap.size w w2:=by (repeat (first | exact Below.refl _ _ | assumption | (refine below_alloc ?_ _) | (refine Below.setCell ?_ (by first | omega | (simp;done) | (simp;omega)) _) | (refine Below.drew ?_) | (refine below_drewN ?_ _) | (refine below_then (by assumption) ?_)))
 have c0:w2.cell? ⟨w.heap.size,0,none⟩=some (.int .u64 ep):=hbox.cell 0
 have c1:w2.cell? ⟨w.heap.size,1,none⟩=some (.int .i64 n):=hbox.cell 1
 have c2:w2.cell? ⟨w.heap.size,2,none⟩=some (.int .i64 en):=hbox.cell 2
 have c3:w2.cell? ⟨w.heap.size,3,none⟩=some (.int .u64 fi):=hbox.cell 3
 have c4:w2.cell? ⟨w.heap.size,4,none⟩=some (.int .u64 fe):=hbox.cell 4
 have c5:w2.cell? ⟨w.heap.size,5,none⟩=some (.int .i64 at_):=hbox.cell 5
 have c6:w2.cell? ⟨w.heap.size,6,none⟩=some (.int .i64 s):=hbox.cell 6
 have HBX:=hid hbox
 have HBW2:=hid hbw2
 have K2:=hid (PenOk.new hp2)
 generalize hg:(w.alloc (.cells #[.int .u64 ep,.int .i64 n,.int .i64 en,.int .u64 fi,.int .u64 fe,.int .i64 at_,.int .i64 s] 152)).heap.size=g at*
 have hgw:w.heap.size<g:=by rw[←hg];simp
 have hg2:g≤w2.heap.size:=by rw[←hg];exact hb2.size
 clear hbox hbw2 hp2 hb2 hg
 go_wp2_with fail
 refine (HRT.out _).mono ?_
 rintro r w3 ⟨rfl,hb3⟩
 have K3:=hid (K2.out.later hb3)
 clear c0 c1 c2 c3 c4 c5 c6
 go_wp2_with fail
 obtain⟨a3,b3,p3,k3,_⟩:=K3.out.at
 have hW:Below w3.heap.size w3 (w3.alloc (.cells #[.int .u8 3] 5)):=by (repeat (first | exact Below.refl _ _ | assumption | (refine below_alloc ?_ _) | (refine Below.setCell ?_ (by first | omega | (simp;done) | (simp;omega)) _) | (refine Below.drew ?_) | (refine below_drewN ?_ _) | (refine below_then (by assumption) ?_)))
 have hlit:=lit_byte w3 3 (by omega)
 simp only[Int.cast_ofNat_Int] at hlit
 generalize w3.alloc (.cells #[.int .u8 3] 5)=W3 at*
 refine (pen_put W3 (p3.later hW) [3] _ 1 1 hlit (by simp) (by simp)).mono ?_
 rintro r w4 ⟨rfl,hs4⟩
 have K4:=hid (k3 (PenStep.later hW hs4))
 have q4:=K4.out.blk HBX.out (by omega)
 have c0:w4.cell? ⟨w.heap.size,0,none⟩=some (.int .u64 ep):=q4.cell 0
 clear k3 hs4 hW hlit p3 q4
 go_wp2_with fail
 obtain⟨a4,b4,p4,k4,_⟩:=K4.out.at
 have HEP:Hid (ep=(ep.toNat:Int)):=hid (by omega)
 refine ((by have:=epoch_put w4 p4 ep.toNat (by rw[←HEP.out];exact hep) (by simp;omega) (by simp;omega);rw[←HEP.out] at this;exact this:Calls Tryz.prog 224 #[.pointer (some ⟨g,0,none⟩),.int .u64 ep] w4 fun r w'=>r=.returned (.tuple #[])∧PenStep w4 g g 80 (([]++[3])++varB ep.toNat) a4 w')).mono ?_
 rintro r w5 ⟨rfl,hs5⟩
 have K5:=hid (k4 hs5)
 have q5:=K5.out.blk HBX.out (by omega)
 have c1:w5.cell? ⟨w.heap.size,1,none⟩=some (.int .i64 n):=q5.cell 1
 have c2:w5.cell? ⟨w.heap.size,2,none⟩=some (.int .i64 en):=q5.cell 2
 have c3:w5.cell? ⟨w.heap.size,3,none⟩=some (.int .u64 fi):=q5.cell 3
 have c4:w5.cell? ⟨w.heap.size,4,none⟩=some (.int .u64 fe):=q5.cell 4
 have c5:w5.cell? ⟨w.heap.size,5,none⟩=some (.int .i64 at_):=q5.cell 5
 have c6:w5.cell? ⟨w.heap.size,6,none⟩=some (.int .i64 s):=q5.cell 6
 clear k4 hs5 p4 q5 c0
 go_wp2_with fail
 refine wp_world (fun W=>Below w5.heap.size w5 W∧Blk W w5.heap.size 25 (u64Cells xs).toArray) ⟨by (repeat (first | exact Below.refl _ _ | assumption | (refine below_alloc ?_ _) | (refine Below.setCell ?_ (by first | omega | (simp;done) | (simp;omega)) _) | (refine Below.drew ?_) | (refine below_drewN ?_ _) | (refine below_then (by assumption) ?_))),by rw[hcs.out];exact Blk.new _ _ _⟩ ?_
 rintro W ⟨hW,hB⟩
 obtain⟨a5,b5,p5,k5,_⟩:=K5.out.at
 have HW:=hid hW
 have HB:=hid hB
 have HNO:Hid (¬PenF g a5 w5.heap.size):=hid fun hf=>by have:=(p5.own_lt hf).2;omega
 have HK5:=hid (fun (J':List UInt8) (w':World) (h:PenStep W g g 80 J' a5 w')=>k5 (PenStep.later hW h))
 have HP5:=hid (p5.later hW)
 clear c1 c2 c3 c4 c5 c6 k5 hW hB p5
 go_loopw [38] (fun i wr=>∃k:Nat,k≤6∧i=.int .i64 k∧Hid (PenStep W g g 80 (([]++[3])++varB ep.toNat++numsB (xs.take k)) a5 wr)) (fun i _=>6-(intOf i).toNat)
 case atStart=>exact ⟨0,Nat.zero_le _,rfl,hid (by simpa [numsB] using PenStep.refl HP5.out)⟩
 case round=>
  obtain⟨k,hk,rfl,HST⟩:=hrel
  by_cases hlt:k<6
  ·have hkx:k<xs.length:=by rw[hnl.out];exact hlt
   have x0:wr.cell? ⟨w5.heap.size,k,none⟩=some (.int .u64 xs[k]):=by
    refine ((HST.out.blk HB.out HNO.out).cell k).trans ?_
    simp[u64Cells,hkx]
   have HS:=hid (hst.out k hkx)
   have hl:=hle.out k hkx
   have hb:=HNB.out _ (List.getElem_mem hkx)
   generalize xs[k]=x at*
   have i1:(k:Int)<6:=by omega
   obtain⟨a7,b7,p7,k7⟩:=HST.out.at
   have HV:=hid (varint_putI wr p7 x hb (by simp;omega) (by simp;omega))
   have HK7:=hid k7
   clear p7 k7
   go_wp2_with fail
   refine HV.out.mono ?_
   rintro r w7 ⟨rfl,hs7⟩
   have HS7:=hid (HK7.out _ _ hs7)
   clear hs7
   go_wp2
   go_roundw
   case rel=>exact ⟨k+1,by omega,by go_num,hid (by rw[HS.out];have:=HS7.out;rw[List.append_assoc] at this;exact this)⟩
   case measure=>simp [intOf];omega
  ·obtain rfl:k=6:=by omega
   have K6:Hid (PenOk w2 g 80 K wr):=hid (by
    have h:=HK5.out _ _ HST.out
    rw[List.take_of_length_le (by rw[hnl.out];omega),List.nil_append,←hpe.out] at h
    exact h)
   go_wp2_with fail
   obtain⟨a7,b7,p7,k7,_⟩:=K6.out.at
   refine (pen_bytes wr p7).mono ?_
   rintro r w8 ⟨x,rfl,hr,hb8⟩
   have hbw:=K6.out.below HBW2.out (by omega)
   have HR:=hid hr
   clear hr k7 p7
   go_wp2
   go_ret2
   exact⟨_,rfl,rBytes.mono HR.out fun q hq=>⟨by have:=hbw.size;omega,hq.2⟩,below_then hb8 hbw⟩
end Go.Proofs.YtmioakocnebceaaGreat
