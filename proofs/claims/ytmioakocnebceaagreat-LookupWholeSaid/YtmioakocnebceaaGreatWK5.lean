/- Mini: Needed by lookupWhole_walk, part 5: texts put together by shake.py; no condition. -/
import Derived.Test.YtmioakocnebceaaGreatWK4
import Derived.Lib.SlBytesConst
import Derived.RegionTactic
import Derived.Laws.BitsAllLaws
import Derived.Test.YtmioakocnebceaaGreatWK2
import Derived.Test.YtmioakocnebceaaGreatWK1
import Derived.Deep.AppendLies
import Derived.Deep.RegionLaw
set_option linter.unusedVariables false
set_option linter.unusedSimpArgs false
set_option maxRecDepth 100000
set_option maxHeartbeats 6400000
namespace Go.Proofs.YtmioakocnebceaaGreat
open Go.RowKit Go.Bs Go.Maps
theorem penF_old{w:World}{g:Nat}{a a1:Option Addr}(h:a1.map Addr.block=a.map Addr.block∨∃q,a1.map Addr.block=some q∧w.heap.size≤q){q:Nat}(hq:q<w.heap.size)(hn:¬PenF g a q):¬PenF g a1 q:=by
 rw[penF_is] at hn ⊢
 intro e
 rcases e with e | e
 ·exact hn (.inl e)
 ·rcases h with h | ⟨q',h,h2⟩
  ·exact hn (.inr (h ▸ e))
  ·rw[h] at e;have:=Option.some.inj e;omega
theorem lit_one(w:World)(y:UInt8):rBytes.r (·<(w.alloc (.cells #[.int .u8 (y.toNat:Int)] 5)).heap.size) (w.alloc (.cells #[.int .u8 (y.toNat:Int)] 5)) [.slice (some ⟨w.heap.size,0,none⟩) 1 1] [y]:=
 own_bytes (l:=[y]) rfl (own_new1 (base:=0) (Nat.zero_le _) (World.alloc_heap_new w _))
theorem block_put(w:World){g base most:Nat}{J:List UInt8}{a:Option Addr}{c:Nat}(h:PenAt w g base most J a c)(p:List UInt8)(ad:Option Addr)(nd cd:Nat)
  (hD:rBytes.r (fun q=>q<w.heap.size∧¬PenF g a q) w [.slice ad nd cd] p) (hp:p.length≤1048576) (hfit:J.length+(blockB p).length≤most) (hlen:J.length+(blockB p).length≤100000000000000):
  Calls Tryz.prog 367 #[.pointer (some ⟨g,0,none⟩),.slice ad nd cd] w fun r w'=>r=.returned (.tuple #[])∧PenStep w g base most (J++blockB p) a w':=by
 obtain⟨rfl,hm,_,_⟩:=sl_len hD
 have d1:decide ((1048576:Int)<(p.length:Int))=false:=decide_eq_false (by omega)
 have hbk:Hid (blockB p=varB p.length++(if packR p then 1::blobB (pressB p) else 0::p)):=hid rfl
 have hvl:(varB p.length).length≤(blockB p).length:=by rw[hbk.out];simp
 have HV:=hid (varint_put w h p.length (by omega) (by omega) (by omega))
 have HPK:=hid (fun (W:World) (hl:rBytes.r (·<W.heap.size) W [.slice ad p.length cd] p)=>block_packed W p ad _ cd hl hp)
 have HD:=hid hD
 have HFIT:=hid hfit;have HLEN:=hid hlen
 clear h hD hfit hlen hvl
 generalize packR p=R at*
 generalize pressB p=E at*
 generalize varB p.length=V at*
 generalize blockB p=K at*
 cases R
 ·have HK:Hid (K=V++(0::p)):=hid hbk.out
  clear hbk
  go_enter Tryz.func367,Tryz.ntmps367
  go_wp2_with fail
  refine HV.out.mono ?_
  rintro r w1 ⟨rfl,a1,c1,hp1,ht1,ha1⟩
  have hs1:=ht1.size
  have hD1:rBytes.r (fun q=>q<w1.heap.size∧¬PenF g a1 q) w1 [.slice ad p.length cd] p:=rBytes.mono (rBytes.keep HD.out fun q hq=>ht1.block q hq.1 hq.2) fun q hq=>⟨by omega,penF_old ha1 hq.1 hq.2⟩
  have HD1:=hid hD1
  clear hD1
  go_wp2_with fail
  refine (HPK.out _ (rBytes.mono HD1.out fun q hq=>hq.1)).mono ?_
  rintro r w2 ⟨v2,rfl,_,hv2,hb2⟩
  obtain rfl:=hv2 trivial
  have hs2:=hb2.size
  have hp2:=hp1.later hb2
  go_wp2_with fail
  have hbW:Below w2.heap.size w2 (w2.alloc (.cells #[.int .u8 0] 5)):=by (repeat (first | exact Below.refl _ _ | assumption | (refine below_alloc ?_ _) | (refine Below.setCell ?_ (by first | omega | (simp;done) | (simp;omega)) _) | (refine Below.drew ?_) | (refine below_drewN ?_ _) | (refine below_then (by assumption) ?_)))
  have hlit:rBytes.r (·<(w2.alloc (.cells #[.int .u8 0] 5)).heap.size) (w2.alloc (.cells #[.int .u8 0] 5)) [.slice (some ⟨w2.heap.size,0,none⟩) 1 1] [0]:=lit_one w2 0
  generalize w2.alloc (.cells #[.int .u8 0] 5)=W at*
  have hsW:=hbW.size
  refine (pen_put W (hp2.later hbW) [0] (some ⟨w2.heap.size,0,none⟩) 1 1 hlit (by have:=HFIT.out;rw[HK.out] at this;simp at this ⊢;omega) (by have:=HLEN.out;rw[HK.out] at this;simp at this ⊢;omega)).mono ?_
  rintro r w3 ⟨rfl,a3,c3,hp3,ht3,ha3⟩
  have hs3:=ht3.size
  have hD3:rBytes.r (·<w3.heap.size) w3 [.slice ad p.length cd] p:=rBytes.mono (rBytes.keep HD1.out fun q hq=>(ht3.block q (by omega) hq.2).trans ((hbW.block q (by omega)).trans (hb2.block q hq.1))) fun q hq=>by omega
  have HQ:=hid (pen_put w3 hp3 p ad _ cd hD3 (by have:=HFIT.out;rw[HK.out] at this;simp at this ⊢;omega) (by have:=HLEN.out;rw[HK.out] at this;simp at this ⊢;omega))
  clear hD3 hlit
  go_wp2_with fail
  refine HQ.out.mono ?_
  rintro r w4 ⟨rfl,hst⟩
  have hst2:=PenStep.trans (J:=J) ht1 ha1 (PenStep.later hb2 (PenStep.later hbW (PenStep.trans (J:=J) ht3 ha3 hst)))
  have HST:Hid (PenStep w g base most (J++K) a w4):=hid (by rw[HK.out];simpa using hst2)
  clear hst hst2
  go_wp2
  first | go_end0 | refine bodyPost_ret (results_none rfl _ _ _) rfl ?_
  exact⟨rfl,HST.out⟩
 ·have HK:Hid (K=V++(1::blobB E)):=hid hbk.out
  clear hbk
  go_enter Tryz.func367,Tryz.ntmps367
  go_wp2_with fail
  refine HV.out.mono ?_
  rintro r w1 ⟨rfl,a1,c1,hp1,ht1,ha1⟩
  have hs1:=ht1.size
  have hD1:rBytes.r (fun q=>q<w1.heap.size∧¬PenF g a1 q) w1 [.slice ad p.length cd] p:=rBytes.mono (rBytes.keep HD.out fun q hq=>ht1.block q hq.1 hq.2) fun q hq=>⟨by omega,penF_old ha1 hq.1 hq.2⟩
  have HD1:=hid hD1
  clear hD1
  go_wp2_with fail
  refine (HPK.out _ (rBytes.mono HD1.out fun q hq=>hq.1)).mono ?_
  rintro r w2 ⟨v2,rfl,hv2,_,hb2⟩
  obtain⟨a2,c2,hve,hr2,_⟩:=sl_form (hv2 trivial)
  simp only[List.cons.injEq,and_true] at hve
  subst hve
  have HE:=hid hr2
  clear hv2 hr2
  have hs2:=hb2.size
  have hp2:=hp1.later hb2
  go_wp2_with fail
  have hbW:Below w2.heap.size w2 (w2.alloc (.cells #[.int .u8 1] 5)):=by (repeat (first | exact Below.refl _ _ | assumption | (refine below_alloc ?_ _) | (refine Below.setCell ?_ (by first | omega | (simp;done) | (simp;omega)) _) | (refine Below.drew ?_) | (refine below_drewN ?_ _) | (refine below_then (by assumption) ?_)))
  have hlit:rBytes.r (·<(w2.alloc (.cells #[.int .u8 1] 5)).heap.size) (w2.alloc (.cells #[.int .u8 1] 5)) [.slice (some ⟨w2.heap.size,0,none⟩) 1 1] [1]:=lit_one w2 1
  generalize w2.alloc (.cells #[.int .u8 1] 5)=W at*
  have hsW:=hbW.size
  refine (pen_put W (hp2.later hbW) [1] (some ⟨w2.heap.size,0,none⟩) 1 1 hlit (by have:=HFIT.out;rw[HK.out] at this;simp at this ⊢;omega) (by have:=HLEN.out;rw[HK.out] at this;simp at this ⊢;omega)).mono ?_
  rintro r w3 ⟨rfl,a3,c3,hp3,ht3,ha3⟩
  have hs3:=ht3.size
  have hno:∀q,w1.heap.size≤q→¬PenF g a1 q:=fun q hq hf=>by have:=(hp1.own_lt hf).2;omega
  have hE3:rBytes.r (fun q=>q<w3.heap.size∧¬PenF g a3 q) w3 [.slice a2 E.length c2] E:=rBytes.mono (rBytes.keep HE.out fun q hq=>(ht3.block q (by omega) (hno q hq.1)).trans (hbW.block q (by omega))) fun q hq=>⟨by omega,penF_old ha3 (by omega) (hno q hq.1)⟩
  have HQ:=hid (blob_put w3 hp3 E a2 _ c2 hE3 (by have:=HFIT.out;rw[HK.out] at this;simp at this ⊢;omega) (by have:=HLEN.out;rw[HK.out] at this;simp at this ⊢;omega))
  clear hE3 hlit hno
  go_wp2_with fail
  refine HQ.out.mono ?_
  rintro r w4 ⟨rfl,hst⟩
  have hst2:=PenStep.trans (J:=J) ht1 ha1 (PenStep.later hb2 (PenStep.later hbW (PenStep.trans (J:=J) ht3 ha3 hst)))
  have HST:Hid (PenStep w g base most (J++K) a w4):=hid (by rw[HK.out];simpa using hst2)
  clear hst hst2
  go_wp2
  first | go_end0 | refine bodyPost_ret (results_none rfl _ _ _) rfl ?_
  exact⟨rfl,HST.out⟩
theorem blockB_len(p:List UInt8):(blockB p).length≤(varB p.length).length+p.length+1:=by
 unfold blockB
 by_cases h:packR p=true
 ·have h2:=h
  unfold packR at h2
  have h3:=of_decide_eq_true h2
  rw[if_pos h]
  simp;omega
 ·rw[if_neg h]
  simp;omega
theorem block_bytes(w:World)(p:List UInt8)(a:Option Addr)(n c:Nat)(hl:rBytes.r (·<w.heap.size) w [.slice a n c] p)(hp:p.length≤1048576):
  Calls Tryz.prog 293 #[.slice a n c] w fun r w'=>∃v,r=.returned (.tuple #[v,.int .i64 0])∧rBytes.r (fun q=>w.heap.size≤q∧q<w'.heap.size) w' [v] (blockB p)∧Below w.heap.size w w':=by
 obtain⟨rfl,hm,_,_⟩:=sl_len hl
 have HS:=hid (blob_size p.length (by omega) w)
 have hbl:=blockB_len p
 have hvl:=varB_len p.length
 have HL:=hid hl
 clear hl
 generalize (varB p.length).length=k at*
 have hbK:=hid hbl
 clear hbl
 go_enter Tryz.func293,Tryz.ntmps293
 go_wp2_with fail
 refine HS.out.mono ?_
 rintro r w1 ⟨rfl,hb1⟩
 have HN:=hid (pen_new w1 (k+p.length+1) (by omega))
 rw[show ((k+p.length+1:Nat):Int)=(k:Int)+(p.length:Int)+1 by omega] at HN
 have hs1:=hb1.size
 go_wp2_with fail
 refine HN.out.mono ?_
 rintro r w2 ⟨rfl,hp2,hb2⟩
 have hs2:=hb2.size
 have hbw2:=below_then hb2 hb1
 have HQ:=hid (block_put w2 hp2 p a _ c (rBytes.mono (rBytes.keep HL.out fun q hq=>hbw2.block q hq) fun q hq=>⟨by omega,fun hf=>by have:=(hp2.own_lt hf).1;omega⟩) hp (by have:=hbK.out;simp;omega) (by have:=hbK.out;simp;omega))
 have HP2:=hid hp2
 clear hp2
 go_wp2_with fail
 refine HQ.out.mono ?_
 rintro r w3 ⟨rfl,hst⟩
 have hb3:Below w1.heap.size w2 w3:=HP2.out.below (Nat.le_refl _) (by omega) hst
 obtain⟨a3,c3,hp3,_,_⟩:=hst
 rw[List.nil_append] at hp3
 have hs3:=hb3.size
 have hbw3:Below w.heap.size w w3:=hbw2.trans (hb3.mono (by omega))
 have HB:=hid (pen_bytes w3 hp3)
 clear hp3
 go_wp2_with fail
 refine HB.out.mono ?_
 rintro r w4 ⟨v,rfl,hv,hb4⟩
 have hbe:=below_then hb4 hbw3
 have HV:=hid (rBytes.mono (S':=fun q=>w.heap.size≤q∧q<w4.heap.size) hv fun q hq=>⟨by have:=hq.1;omega,hq.2⟩)
 clear hv
 go_wp2
 go_ret2
 exact⟨_,rfl,HV.out,hbe⟩
def Rs.inn(s:Rs)(L:Nat):Prop:=0≤s.f∧s.f≤L
theorem Rs.fail_in{s:Rs}{L:Nat}(h:s.inn L){c at_:Int}(h1:0≤at_)(h2:at_≤L):(s.fail c at_).inn L:=by
 unfold Rs.fail;split
 ·exact⟨h1,h2⟩
 ·exact h
theorem Rs.skip_in{s:Rs}{L:Nat}(h:s.ok L)(hi:s.inn L)(n:Int):(s.skip L n).2.inn L:=by
 have:=h.le
 unfold Rs.skip Rs.inn at*
 split
 ·split
  ·dsimp only;omega
  ·split
   ·dsimp only;omega
   ·dsimp only;omega
 ·exact hi
theorem Rs.num_in{B:List UInt8}{s:Rs}(h:s.ok B.length)(hi:s.inn B.length):(s.num B).1.inn B.length:=by
 have hu:=vget_used (B.drop s.p) 0 0
 have hl:(B.drop s.p).length=B.length-s.p:=by simp
 have:=h.le
 unfold Rs.num Rs.inn at*
 split
 ·dsimp only
  split
  ·omega
  ·split
   ·omega
   ·rename_i h1 h2
    have:=hu.2.2.2.2 h2
    omega
 ·exact hi
theorem Rs.head_in{B:List UInt8}{s:Rs}(h:s.ok B.length)(hi:s.inn B.length):(s.head B).1.inn B.length:=by
 have hle:=h.le
 have hn:=Rs.num_in h hi
 unfold Rs.head;split
 ·split
  ·split
   ·exact Rs.fail_in hn (by omega) (by omega)
   ·exact hn
  ·split
   ·exact Rs.fail_in hn (by omega) (by omega)
   ·exact hn
 ·exact hn
theorem Rs.offset_in{B:List UInt8}{s:Rs}(h:s.ok B.length)(hi:s.inn B.length):(s.offset B).1.inn B.length:=by
 have hle:=h.le
 have hn:=Rs.num_in h hi
 unfold Rs.offset;dsimp only;split
 ·exact Rs.fail_in hn (by omega) (by omega)
 ·exact hn
theorem exStep_in{B:List UInt8}{bound:Int}{s:Rs}{out:List UInt8}(h:s.ok B.length)(hi:s.inn B.length):(exStep B bound s out).1.inn B.length:=by
 have hle:=h.le
 have hh:=Rs.head_in h hi
 have ho:=Rs.head_ok h
 have hle2:=ho.le
 unfold exStep;split
 ·exact Rs.fail_in hh (by omega) (by omega)
 ·split
  ·exact Rs.skip_in ho hh _
  ·split
   ·exact Rs.fail_in (Rs.offset_in ho hh) (by omega) (by omega)
   ·split
    ·exact Rs.offset_in ho hh
    ·exact Rs.offset_in ho hh
theorem exF_in{B:List UInt8}{bound:Int}:∀(f:Nat) (s:Rs) (out:List UInt8),s.ok B.length→s.inn B.length→(exF B bound f s out).1.inn B.length
 | 0,s,out,_,h=>h
 | f+1,s,out,h1,h2=>by
  simp only[exF];split
  ·exact exF_in f _ _ (exStep_ok h1) (exStep_in h1 h2)
  ·exact h2
theorem exF_fits{B:List UInt8}{bound:Int}:∀(f:Nat) (s:Rs) (out:List UInt8),exIn bound out→exIn bound (exF B bound f s out).2
 | 0,s,out,h=>h
 | f+1,s,out,h=>by
  simp only[exF];split
  ·exact exF_fits f _ _ (exIn_step h)
  ·exact h
theorem exB_facts(B:List UInt8)(bound:Int):(exB B bound).1.length≤bound.toNat∧0≤(exB B bound).2.2∧(exB B bound).2.2≤B.length∧((exB B bound).2.1≠0→(exB B bound).1=[]):=by
 have h1:=exF_in (B:=B) (bound:=bound) B.length ⟨0,0,0⟩ [] ⟨Nat.zero_le _,fun _=>rfl⟩ ⟨by simp,by simp⟩
 have h2:=exF_fits (B:=B) (bound:=bound) B.length ⟨0,0,0⟩ [] (.inl rfl)
 unfold exB
 split
 ·refine⟨?_,by simp,by simp,by simp⟩
  rcases h2 with h | h
  ·rw[h];simp
  ·dsimp only;omega
 ·exact⟨by simp,h1.1,h1.2,by simp⟩
theorem Rs.int_p{B:List UInt8}{s:Rs}{m:Int}:s.p≤(s.int B m).1.p:=by
 unfold Rs.int Rs.most
 split
 ·split
  ·rw[Rs.fail_p];exact Rs.num_p
  ·exact Rs.num_p
 ·rw[Rs.fail_p];exact Rs.num_p
theorem Rs.byte_p{B:List UInt8}{s:Rs}(h:s.ok B.length):s.p≤(s.byte B).1.p:=Rs.skip_p h 1
theorem Rs.take_p{B:List UInt8}{s:Rs}(h:s.ok B.length)(n:Int):s.p≤(s.take B n).1.p:=Rs.skip_p h n
theorem Rs.blob_p{B:List UInt8}{s:Rs}(h:s.ok B.length)(m:Int):s.p≤(s.blob B m).1.p:=Nat.le_trans (Rs.int_p (m:=m)) (Rs.take_p (Rs.int_ok h) _)
theorem Rs.blob_ok{B:List UInt8}{s:Rs}(h:s.ok B.length)(m:Int):(s.blob B m).1.ok B.length:=Rs.take_ok (Rs.int_ok h) _
def Rs.unp(B:List UInt8)(s:Rs)(n:Nat):Rs × List UInt8:=
 if (s.blob B 1048576).1.k=0 then
  (if (exB (s.blob B 1048576).2 n).2.1=0 then
   (if (exB (s.blob B 1048576).2 n).1.length<n then ((s.blob B 1048576).1.fail 3 (s.blob B 1048576).1.p,(exB (s.blob B 1048576).2 n).1) else ((s.blob B 1048576).1,(exB (s.blob B 1048576).2 n).1))
  else ((s.blob B 1048576).1.fail (exB (s.blob B 1048576).2 n).2.1 ((exB (s.blob B 1048576).2 n).2.2+(((s.blob B 1048576).1.p:Int)-((s.blob B 1048576).2.length:Int))),[]))
 else ((s.blob B 1048576).1,[])
theorem Rs.unp_p{B:List UInt8}{s:Rs}(h:s.ok B.length)(n:Nat):s.p≤(s.unp B n).1.p:=by
 have:=Rs.blob_p h 1048576
 unfold Rs.unp
 split
 ·split
  ·split
   ·rw[Rs.fail_p];exact this
   ·exact this
  ·rw[Rs.fail_p];exact this
 ·exact this
theorem Rs.unp_len{B:List UInt8}{s:Rs}(n:Nat):(s.unp B n).2.length≤n:=by
 have:=(exB_facts (s.blob B 1048576).2 n).1
 unfold Rs.unp
 split
 ·split
  ·split
   ·dsimp only;omega
   ·dsimp only;omega
  ·simp
 ·simp
def Rs.loose(B:List UInt8)(s:Rs)(most:Int):Rs × List UInt8 × Bool:=
 if ((s.int B (min most 1048576)).1.byte B).1.k=0 then
  (if ((s.int B (min most 1048576)).1.byte B).2.toNat=0 then
   (if (((s.int B (min most 1048576)).1.byte B).1.take B ((s.int B (min most 1048576)).2:Int)).1.k=0 then ((((s.int B (min most 1048576)).1.byte B).1.take B ((s.int B (min most 1048576)).2:Int)).1,(((s.int B (min most 1048576)).1.byte B).1.take B ((s.int B (min most 1048576)).2:Int)).2,decide (blockB (((s.int B (min most 1048576)).1.byte B).1.take B ((s.int B (min most 1048576)).2:Int)).2=(B.drop s.p).take ((((s.int B (min most 1048576)).1.byte B).1.take B ((s.int B (min most 1048576)).2:Int)).1.p-s.p)))
   else ((((s.int B (min most 1048576)).1.byte B).1.take B ((s.int B (min most 1048576)).2:Int)).1,[],false))
  else if ((s.int B (min most 1048576)).1.byte B).2.toNat=1 then
   (if (((s.int B (min most 1048576)).1.byte B).1.unp B (s.int B (min most 1048576)).2).1.k=0 then ((((s.int B (min most 1048576)).1.byte B).1.unp B (s.int B (min most 1048576)).2).1,(((s.int B (min most 1048576)).1.byte B).1.unp B (s.int B (min most 1048576)).2).2,decide (blockB (((s.int B (min most 1048576)).1.byte B).1.unp B (s.int B (min most 1048576)).2).2=(B.drop s.p).take ((((s.int B (min most 1048576)).1.byte B).1.unp B (s.int B (min most 1048576)).2).1.p-s.p)))
   else ((((s.int B (min most 1048576)).1.byte B).1.unp B (s.int B (min most 1048576)).2).1,[],false))
  else (((s.int B (min most 1048576)).1.byte B).1.fail 7 ((((s.int B (min most 1048576)).1.byte B).1.p:Int)-1),[],false))
 else (((s.int B (min most 1048576)).1.byte B).1,[],false)
theorem bytes_equal(x y:List UInt8)(a a':Option Addr)(n c n' c':Nat)(w:World)(hx:rBytes.r (·<w.heap.size) w [.slice a n c] x)(hy:rBytes.r (·<w.heap.size) w [.slice a' n' c'] y):
  Calls Tryz.prog 279 #[.slice a n c,.slice a' n' c'] w fun r w'=>r=.returned (.bool (decide (x=y)))∧w=w':=by
 obtain⟨rfl,_,_,_⟩:=sl_len hx
 obtain⟨rfl,_,_,_⟩:=sl_len hy
 have h1:=bytes_str (P:=Tryz.prog) 22 9 5 Tryz.underlying22 Tryz.underlying5 Tryz.underlying9 hx
 have h2:=bytes_str (P:=Tryz.prog) 22 9 5 Tryz.underlying22 Tryz.underlying5 Tryz.underlying9 hy
 have he:(x==y)=decide (x=y):=by
  by_cases h:x=y
  ·simp[h]
  ·simp[h]
 have HE:=hid he;clear he hx hy
 go_enter Tryz.func279,Tryz.ntmps279
 go_wp2
 go_ret
 refine⟨?_,rfl⟩
 rw[←HE.out]
 simp[go_sem]
theorem fault_shift(w:World)(k f b:Int)(hk:k≠0)(hf: -1000000000000≤f∧f≤1000000000000)(hb: -1000000000000≤b∧b≤1000000000000):Calls Tryz.prog 174 #[.agg #[.int .i64 k,.int .i64 f],.int .i64 b] w fun r w'=>r=.returned (.agg #[.int .i64 k,.int .i64 (f+b)])∧Below w.heap.size w w':=by
 go_enter Tryz.func174,Tryz.ntmps174
 go_wp2_with fail
 refine (fault_at _ k (f+b) hk).mono ?_
 rintro r w1 ⟨rfl,hb1⟩
 have B1:Blk w1 (w.heap.size+1) 31 #[.int .i64 0,.int .i64 0]:=Blk.later (by (repeat (first | assumption | exact Blk.newAt _ _ _ (by first | (simp;done) | (simp;omega)) | refine Blk.alloc ?_ _ | refine Blk.drew ?_ | refine Blk.drewN ?_ _ | refine Blk.far ?_ (by first | (simp;done) | (simp;omega)) _))) hb1
 obtain⟨y0,y1,g0,g1,l1⟩:=f_blk B1
 have hbw:Below w.heap.size w w1:=by (repeat (first | with_reducible exact Below.refl _ _ | with_reducible assumption | (with_reducible refine below_alloc ?_ _) | (with_reducible refine Below.setCell ?_ (by first | omega | (simp;done) | (simp;omega)) _) | (with_reducible refine Below.drew ?_) | (with_reducible refine below_drewN ?_ _) | (refine below_then (by with_reducible assumption) ?_)))
 clear B1 hb1
 go_wp2
 refine bodyPost_ret (v:=.agg #[.int .i64 k,.int .i64 (f+b)]) (by simp[results,Tryz.results174,go_sem,y0,y1,l1]) rfl ⟨rfl,by (repeat (first | with_reducible exact Below.refl _ _ | with_reducible assumption | (with_reducible refine below_alloc ?_ _) | (with_reducible refine Below.setCell ?_ (by first | omega | (simp;done) | (simp;omega)) _) | (with_reducible refine Below.drew ?_) | (with_reducible refine below_drewN ?_ _) | (refine below_then (by with_reducible assumption) ?_)))⟩
theorem block_unpacked(w:World){g:Nat}{B:List UInt8}{a:Option Addr}{s:Rs}(h:RdAt w g B a s)(hB:B.length≤1000000000)(n:Nat)(hn:n≤1048576):Calls Tryz.prog 292 #[.pointer (some ⟨g,0,none⟩),.int .i64 (n:Int)] w fun r w'=>∃v,r=.returned v∧rBytes.r (fun q=>w.heap.size≤q∧q<w'.heap.size) w' [v] (s.unp B n).2∧RdStep w g B a (s.unp B n).1 w':=by
 have HB:=hid (blob_read w h (by omega) 1048576 (by omega))
 have hbok:=Rs.blob_ok h.ok 1048576
 have hlen:(s.blob B 1048576).2.length≤B.length:=by
  unfold Rs.blob Rs.take
  dsimp only
  split
  ·simp;omega
  ·simp
 have hxf:=exB_facts (s.blob B 1048576).2 n
 have hX:=hid (fun (W:World) (aD:Option Addr) (nD cD:Nat) (hl:rBytes.r (·<W.heap.size) W [.slice aD nD cD] (s.blob B 1048576).2)=>expand_bytes W (s.blob B 1048576).2 aD nD cD hl (by omega) n (by omega))
 have hpl:=hbok.le
 unfold Rs.unp
 generalize s.blob B 1048576=T at*
 generalize exB T.2 n=X at*
 obtain⟨s1,D⟩:=T
 obtain⟨out,k,f⟩:=X
 dsimp only at*
 have hgl:=h.blk.lt
 have HDAT:=hid h.dat
 clear h
 by_cases h1:s1.k=0
 ·have dk:decide (s1.k=0)=true:=decide_eq_true h1
  rw[if_pos h1]
  have H1:=hid h1
  clear h1
  by_cases h2:k=0
  ·have d2:decide (k=0)=true:=decide_eq_true h2
   rw[if_pos h2]
   clear h2
   by_cases h3:out.length<n
   ·have d3:decide ((out.length:Int)<(n:Int))=true:=decide_eq_true (by omega)
    have d3':decide (out.length<n)=true:=decide_eq_true h3
    rw[if_pos h3]
    clear h3
    dsimp only
    go_enter Tryz.func292,Tryz.ntmps292
    go_wp2_with fail
    refine HB.out.mono ?_
    rintro r w1 ⟨v,rfl,hr,hst⟩
    obtain⟨aD,cD,hv,hr2,_⟩:=sl_form hr
    simp only[List.cons.injEq,and_true] at hv
    subst hv
    have HD1:=hid hr2
    have HST:=hid hst
    have hs1:=hst.size
    have hG:=rd_good w1 hst.1
    rw[dk] at hG
    have HG:=hid hG
    clear hr hr2 hst hG dk
    go_wp2_with fail
    refine HG.out.mono ?_
    rintro r w2 ⟨rfl,hb2⟩
    have hs2:=hb2.size
    have HAT:=hid (rd_at w2 (HST.out.1.later hb2))
    go_wp2_with fail
    refine HAT.out.mono ?_
    rintro r w2' ⟨rfl,rfl⟩
    go_wp2_with fail
    refine (hX.out w2 aD _ cD (rBytes.mono (rBytes.keep HD1.out fun q hq=>hb2.block q hq.2) fun q hq=>by omega)).mono ?_
    rintro r w3 ⟨v3,rfl,hr,hb3⟩
    obtain⟨a3,c3,hv,hr2,_⟩:=sl_form hr
    simp only[List.cons.injEq,and_true] at hv
    subst hv
    have HR3:=hid hr2
    have hs3:=hb3.size
    clear hr hr2
    have hG:=fault_good (w3.alloc (.cells #[.int .i64 k,.int .i64 f] 31)) k f
    rw[d2] at hG
    have HG3:=hid hG
    clear hG d2
    go_wp2_with fail
    refine HG3.out.mono ?_
    rintro r w4 ⟨rfl,hb4⟩
    have hb34:Below w3.heap.size w3 w4:=by (repeat (first | with_reducible exact Below.refl _ _ | with_reducible assumption | (with_reducible refine below_alloc ?_ _) | (with_reducible refine Below.setCell ?_ (by first | omega | (simp;done) | (simp;omega)) _) | (with_reducible refine Below.drew ?_) | (with_reducible refine below_drewN ?_ _) | (refine below_then (by with_reducible assumption) ?_)))
    have hb14:Below w1.heap.size w1 w4:=below_then hb34 (below_then hb3 hb2)
    have HST4:=hid (HST.out.then hb14)
    have hs4:=hb34.size
    have HKP:=hid (rBytes.mono (S':=fun q=>w2.heap.size≤q∧q<w4.heap.size) (rBytes.keep HR3.out fun q hq=>hb34.block q hq.2) fun q hq=>⟨hq.1,by omega⟩)
    have HAT2:=hid (rd_at _ HST4.out.1)
    go_wp2_with fail
    refine HAT2.out.mono ?_
    rintro r w4' ⟨rfl,rfl⟩
    have HF:=hid (rd_fail _ HST4.out.1 3 s1.p (by omega))
    go_wp2_with fail
    refine HF.out.mono ?_
    rintro r w5 ⟨rfl,hst5⟩
    have hs5:=hst5.size
    have HR5:=hid (rBytes.mono (S':=fun q=>w.heap.size≤q∧q<w5.heap.size) (rBytes.keep HKP.out fun q hq=>hst5.2.block q hq.2 (by omega)) fun q hq=>⟨by omega,by omega⟩)
    have HST5:=hid (RdStep.trans HST4.out.2 hst5)
    clear hst5
    go_wp2
    go_ret
    exact⟨_,rfl,HR5.out,HST5.out⟩
   ·have d3:decide ((out.length:Int)<(n:Int))=false:=decide_eq_false (by omega)
    have d3':decide (out.length<n)=false:=decide_eq_false h3
    rw[if_neg h3]
    clear h3
    dsimp only
    go_enter Tryz.func292,Tryz.ntmps292
    go_wp2_with fail
    refine HB.out.mono ?_
    rintro r w1 ⟨v,rfl,hr,hst⟩
    obtain⟨aD,cD,hv,hr2,_⟩:=sl_form hr
    simp only[List.cons.injEq,and_true] at hv
    subst hv
    have HD1:=hid hr2
    have HST:=hid hst
    have hs1:=hst.size
    have hG:=rd_good w1 hst.1
    rw[dk] at hG
    have HG:=hid hG
    clear hr hr2 hst hG dk
    go_wp2_with fail
    refine HG.out.mono ?_
    rintro r w2 ⟨rfl,hb2⟩
    have hs2:=hb2.size
    have HAT:=hid (rd_at w2 (HST.out.1.later hb2))
    go_wp2_with fail
    refine HAT.out.mono ?_
    rintro r w2' ⟨rfl,rfl⟩
    go_wp2_with fail
    refine (hX.out w2 aD _ cD (rBytes.mono (rBytes.keep HD1.out fun q hq=>hb2.block q hq.2) fun q hq=>by omega)).mono ?_
    rintro r w3 ⟨v3,rfl,hr,hb3⟩
    obtain⟨a3,c3,hv,hr2,_⟩:=sl_form hr
    simp only[List.cons.injEq,and_true] at hv
    subst hv
    have HR3:=hid hr2
    have hs3:=hb3.size
    clear hr hr2
    have hG:=fault_good (w3.alloc (.cells #[.int .i64 k,.int .i64 f] 31)) k f
    rw[d2] at hG
    have HG3:=hid hG
    clear hG d2
    go_wp2_with fail
    refine HG3.out.mono ?_
    rintro r w4 ⟨rfl,hb4⟩
    have hb34:Below w3.heap.size w3 w4:=by (repeat (first | with_reducible exact Below.refl _ _ | with_reducible assumption | (with_reducible refine below_alloc ?_ _) | (with_reducible refine Below.setCell ?_ (by first | omega | (simp;done) | (simp;omega)) _) | (with_reducible refine Below.drew ?_) | (with_reducible refine below_drewN ?_ _) | (refine below_then (by with_reducible assumption) ?_)))
    have hb14:Below w1.heap.size w1 w4:=below_then hb34 (below_then hb3 hb2)
    have HST4:=hid (HST.out.then hb14)
    have hs4:=hb34.size
    have HKP:=hid (rBytes.mono (S':=fun q=>w2.heap.size≤q∧q<w4.heap.size) (rBytes.keep HR3.out fun q hq=>hb34.block q hq.2) fun q hq=>⟨hq.1,by omega⟩)
    have HR5:=hid (rBytes.mono (S':=fun q=>w.heap.size≤q∧q<w4.heap.size) HKP.out fun q hq=>⟨by omega,by omega⟩)
    go_wp2
    go_ret
    exact⟨_,rfl,HR5.out,HST4.out⟩
  ·have d2:decide (k=0)=false:=decide_eq_false h2
   rw[if_neg h2]
   have ho:=hxf.2.2.2 h2
   subst ho
   have HK2:=hid h2
   clear h2
   dsimp only
   go_enter Tryz.func292,Tryz.ntmps292
   go_wp2_with fail
   refine HB.out.mono ?_
   rintro r w1 ⟨v,rfl,hr,hst⟩
   obtain⟨aD,cD,hv,hr2,_⟩:=sl_form hr
   simp only[List.cons.injEq,and_true] at hv
   subst hv
   have HD1:=hid hr2
   have HST:=hid hst
   have hs1:=hst.size
   have hG:=rd_good w1 hst.1
   rw[dk] at hG
   have HG:=hid hG
   clear hr hr2 hst hG dk
   go_wp2_with fail
   refine HG.out.mono ?_
   rintro r w2 ⟨rfl,hb2⟩
   have hs2:=hb2.size
   have HAT:=hid (rd_at w2 (HST.out.1.later hb2))
   go_wp2_with fail
   refine HAT.out.mono ?_
   rintro r w2' ⟨rfl,rfl⟩
   go_wp2_with fail
   refine (hX.out w2 aD _ cD (rBytes.mono (rBytes.keep HD1.out fun q hq=>hb2.block q hq.2) fun q hq=>by omega)).mono ?_
   rintro r w3 ⟨v3,rfl,hr,hb3⟩
   obtain⟨a3,c3,hv,hr2,_⟩:=sl_form hr
   simp only[List.cons.injEq,and_true] at hv
   subst hv
   have HR3:=hid hr2
   have hs3:=hb3.size
   clear hr hr2
   have hG:=fault_good (w3.alloc (.cells #[.int .i64 k,.int .i64 f] 31)) k f
   rw[d2] at hG
   have HG3:=hid hG
   clear hG d2
   go_wp2_with fail
   refine HG3.out.mono ?_
   rintro r w4 ⟨rfl,hb4⟩
   have hb34:Below w3.heap.size w3 w4:=by (repeat (first | with_reducible exact Below.refl _ _ | with_reducible assumption | (with_reducible refine below_alloc ?_ _) | (with_reducible refine Below.setCell ?_ (by first | omega | (simp;done) | (simp;omega)) _) | (with_reducible refine Below.drew ?_) | (with_reducible refine below_drewN ?_ _) | (refine below_then (by with_reducible assumption) ?_)))
   have hb14:Below w1.heap.size w1 w4:=below_then hb34 (below_then hb3 hb2)
   have HST4:=hid (HST.out.then hb14)
   have hs4:=hb34.size
   have HKP:=hid (rBytes.mono (S':=fun q=>w2.heap.size≤q∧q<w4.heap.size) (rBytes.keep HR3.out fun q hq=>hb34.block q hq.2) fun q hq=>⟨hq.1,by omega⟩)
   have B4:Blk w4 w3.heap.size 31 #[.int .i64 k,.int .i64 f]:=Blk.later (Blk.newAt _ _ _ rfl) hb4
   obtain⟨y0,y1,g0,g1,l1⟩:=f_blk B4
   have HSH:=hid (fault_shift w4 k f ((s1.p:Int)-(D.length:Int)) HK2.out (by omega) (by omega))
   go_wp2_with fail
   refine HSH.out.mono ?_
   rintro r w5 ⟨rfl,hb5⟩
   have B5:=B4.later hb5
   clear y0 y1 g0 g1 l1 B4
   obtain⟨y0,y1,g0,g1,l1⟩:=f_blk B5
   clear B5
   have hk5:RdStep w g B a s1 ((w5.setCell ⟨w3.heap.size,0,none⟩ (.int .i64 k)).setCell ⟨w3.heap.size,1,none⟩ (.int .i64 (f+((s1.p:Int)-(D.length:Int))))):=by
    have h5:=HST4.out.then hb5
    refine⟨⟨Blk.far (Blk.far h5.1.blk (by dsimp only;omega) _) (by dsimp only;omega) _,?_,h5.1.ok⟩,Tch.setCell (Tch.setCell h5.2 (fun e=>by dsimp only at e;omega) _) (fun e=>by dsimp only at e;omega) _⟩
    refine rBytes.mono (rBytes.keep (S:=fun q=>q<w.heap.size∧q≠g) (rBytes.keep HDAT.out fun q hq=>h5.2.block q hq.1 hq.2) fun q hq=> ?_) fun q hq=>⟨by have:=h5.size;simp[World.setCell];omega,hq.2⟩
    have:=hq.1
    rw[Below.heap_setCell _ _ _ _ (by dsimp only;omega),Below.heap_setCell _ _ _ _ (by dsimp only;omega)]
   have HK5:=hid hk5
   clear hk5
   have hsz5:w.heap.size≤((w5.setCell ⟨w3.heap.size,0,none⟩ (.int .i64 k)).setCell ⟨w3.heap.size,1,none⟩ (.int .i64 (f+((s1.p:Int)-(D.length:Int))))).heap.size:=HK5.out.size
   have HF:=hid (rd_fail _ HK5.out.1 k (f+((s1.p:Int)-(D.length:Int))) HK2.out)
   go_wp2_with fail
   refine HF.out.mono ?_
   rintro r w6 ⟨rfl,hst6⟩
   have HST6:=hid (RdStep.trans HK5.out.2 hst6)
   clear hst6 hsz5
   go_wp2
   go_ret
   exact⟨_,rfl,empty_bytes rfl rfl (sl_len HR3.out).2.2.2,HST6.out⟩
 ·have dk:decide (s1.k=0)=false:=decide_eq_false h1
  rw[if_neg h1]
  clear h1
  dsimp only
  go_enter Tryz.func292,Tryz.ntmps292
  go_wp2_with fail
  refine HB.out.mono ?_
  rintro r w1 ⟨v,rfl,hr,hst⟩
  obtain⟨aD,cD,hv,hr2,_⟩:=sl_form hr
  simp only[List.cons.injEq,and_true] at hv
  subst hv
  have HD1:=hid hr2
  have HST:=hid hst
  have hs1:=hst.size
  have hG:=rd_good w1 hst.1
  rw[dk] at hG
  have HG:=hid hG
  clear hr hr2 hst hG dk
  go_wp2_with fail
  refine HG.out.mono ?_
  rintro r w2 ⟨rfl,hb2⟩
  have hs2:=hb2.size
  have HST2:=hid (HST.out.then hb2)
  go_wp2
  go_ret
  exact⟨_,rfl,empty_bytes rfl rfl (by omega),HST2.out⟩
theorem block_loose(w:World){g:Nat}{B:List UInt8}{a:Option Addr}{s:Rs}(h:RdAt w g B a s)(hB:B.length≤1000000000)(most:Int)(hm: -9223372036854775808≤most∧most≤9223372036854775807):
  Calls Tryz.prog 168 #[.pointer (some ⟨g,0,none⟩),.int .i64 most] w fun r w'=>∃v,r=.returned (.tuple #[v,.bool (s.loose B most).2.2])∧rBytes.r (fun q=>w.heap.size≤q∧q<w'.heap.size) w' [v] (s.loose B most).2.1∧RdStep w g B a (s.loose B most).1 w':=by
 have hgl:=h.blk.lt
 have HA:=hid (rd_at w h)
 have HI:=hid (varint_int w h (by omega) (min most 1048576) (by omega))
 have hiok:=Rs.int_ok h.ok (m:=min most 1048576)
 have hip:=Rs.int_p (B:=B) (s:=s) (m:=min most 1048576)
 have hile:(s.int B (min most 1048576)).2≤1048576:=by have:=Rs.int_le (B:=B) (s:=s) (m:=min most 1048576);omega
 have hbok:=Rs.byte_ok hiok
 have hbp:=Rs.byte_p hiok
 have hBY:=hid (fun (W:World) (h:RdAt W g B a (s.int B (min most 1048576)).1)=>rd_byte W h)
 have hTK:=hid (fun (W:World) (h:RdAt W g B a ((s.int B (min most 1048576)).1.byte B).1)=>rd_take W h ((s.int B (min most 1048576)).2:Int) (by omega) (by omega))
 have htp:=Rs.take_p hbok ((s.int B (min most 1048576)).2:Int)
 have htl:(((s.int B (min most 1048576)).1.byte B).1.take B ((s.int B (min most 1048576)).2:Int)).2.length≤1048576:=by
  by_cases h0:(((s.int B (min most 1048576)).1.byte B).1.take B ((s.int B (min most 1048576)).2:Int)).1.k=0
  ·rw[(Rs.take_more h0).2.2];omega
  ·rw[Rs.take_bad h0];simp
 have hUN:=hid (fun (W:World) (h:RdAt W g B a ((s.int B (min most 1048576)).1.byte B).1)=>block_unpacked W h hB (s.int B (min most 1048576)).2 hile)
 have hup:=Rs.unp_p hbok (s.int B (min most 1048576)).2
 have hul:(((s.int B (min most 1048576)).1.byte B).1.unp B (s.int B (min most 1048576)).2).2.length≤1048576:=Nat.le_trans (Rs.unp_len _) hile
 have hFL:=hid (fun (W:World) (h:RdAt W g B a ((s.int B (min most 1048576)).1.byte B).1)=>rd_fail W h 7 ((((s.int B (min most 1048576)).1.byte B).1.p:Int)-1) (by omega))
 have hfk:=Rs.fail_k (s:=((s.int B (min most 1048576)).1.byte B).1) (c:=7) (at_:=((((s.int B (min most 1048576)).1.byte B).1.p:Int)-1)) (by omega)
 have hSN:=hid (fun (W:World) (t:Rs) (h:RdAt W g B a t) (hp:s.p≤t.p)=>rd_since W h s.p hp (by omega))
 have hbyp:((s.int B (min most 1048576)).1.byte B).1.p≤B.length:=hbok.le
 have hb1:((s.int B (min most 1048576)).1.byte B).1.k=0→1≤((s.int B (min most 1048576)).1.byte B).1.p:=fun hk=>by rw[byte_p rfl hk];omega
 unfold Rs.loose
 generalize ((s.int B (min most 1048576)).1.byte B).1.fail 7 ((((s.int B (min most 1048576)).1.byte B).1.p:Int)-1)=F1 at*
 generalize ((s.int B (min most 1048576)).1.byte B).1.take B ((s.int B (min most 1048576)).2:Int)=T at*
 generalize ((s.int B (min most 1048576)).1.byte B).1.unp B (s.int B (min most 1048576)).2=U at*
 generalize (s.int B (min most 1048576)).1.byte B=Y at*
 generalize s.int B (min most 1048576)=N at*
 obtain⟨sd,n⟩:=N
 obtain⟨se,y⟩:=Y
 obtain⟨st,DT⟩:=T
 obtain⟨su,DU⟩:=U
 dsimp only at*
 have hSNt:=hid (fun (W:World) (h:RdAt W g B a st)=>hSN.out W st h (by omega))
 have hSNu:=hid (fun (W:World) (h:RdAt W g B a su)=>hSN.out W su h (by omega))
 generalize (B.drop s.p).take (st.p-s.p)=S1 at*
 generalize (B.drop s.p).take (su.p-s.p)=S2 at*
 clear hSN
 have hM:(if most≤1048576 then most else 1048576)=min most 1048576:=by split<;>omega
 have hM2:(if (1048576:Int)<most then (1048576:Int) else most)=min most 1048576:=by split<;>omega
 generalize min most 1048576=M at*
 have hy:=y.toNat_lt
 clear h
 by_cases hk:se.k=0
 ·have dk:decide (se.k=0)=true:=decide_eq_true hk
  have hp1:=hb1 hk
  rw[if_pos hk]
  clear hk hb1
  by_cases h0:y.toNat=0
  ·have d0:((y.toNat:Int)==0)=true:=by rw[h0];rfl
   rw[if_pos h0]
   clear h0
   by_cases ht:st.k=0
   ·have dt:decide (st.k=0)=true:=decide_eq_true ht
    rw[if_pos ht]
    clear ht
    dsimp only
    go_enter Tryz.func168,Tryz.ntmps168
    go_wp2_with fail
    refine HA.out.mono ?_
    rintro r w0 ⟨rfl,rfl⟩
    go_wp2_with fail
    refine HI.out.mono ?_
    rintro r w1 ⟨rfl,hst1⟩
    have HST1:=hid hst1
    have HBY:=hid (hBY.out w1 hst1.1)
    clear hst1
    go_wp2_with fail
    refine HBY.out.mono ?_
    rintro r w2 ⟨rfl,hst2⟩
    have HST2:=hid (RdStep.trans HST1.out.2 hst2)
    have hG:=rd_good w2 hst2.1
    rw[dk] at hG
    have HG:=hid hG
    clear hst2 hG dk
    go_wp2_with fail
    refine HG.out.mono ?_
    rintro r w3 ⟨rfl,hb3⟩
    have HST3:=hid (HST2.out.then hb3)
    have hs3:=HST3.out.size
    have HC:=hid (hTK.out w3 HST3.out.1)
    go_wp2_with fail
    refine HC.out.mono ?_
    rintro r w4 ⟨v,rfl,hr,hst4⟩
    obtain⟨aD,cD,hv,hr2,_⟩:=sl_form hr
    simp only[List.cons.injEq,and_true] at hv
    subst hv
    have HR4:=hid hr2
    have hs4:=hst4.size
    have HST4:=hid (RdStep.trans HST3.out.2 hst4)
    have hG4:=rd_good w4 hst4.1
    rw[dt] at hG4
    have HG4:=hid hG4
    clear hr hr2 hst4 hG4 dt
    go_wp2_with fail
    refine HG4.out.mono ?_
    rintro r w5 ⟨rfl,hb5⟩
    have HST5:=hid (HST4.out.then hb5)
    have hs5:=hb5.size
    have HR5:=hid (rBytes.mono (S':=fun q=>w3.heap.size≤q∧q<w5.heap.size) (rBytes.keep HR4.out fun q hq=>hb5.block q hq.2) fun q hq=>⟨hq.1,by omega⟩)
    have HBB:=hid (block_bytes w5 DT aD _ cD (rBytes.mono HR5.out fun q hq=>hq.2) htl)
    go_wp2_with fail
    refine HBB.out.mono ?_
    rintro r w6 ⟨v6,rfl,hr,hb6⟩
    obtain⟨a6,c6,hv,hr2,_⟩:=sl_form hr
    simp only[List.cons.injEq,and_true] at hv
    subst hv
    have HR6:=hid hr2
    have hs6:=hb6.size
    have HST6:=hid (HST5.out.then hb6)
    have HSN:=hid (hSNt.out w6 HST6.out.1)
    clear hr hr2
    go_wp2_with fail
    refine HSN.out.mono ?_
    rintro r w7 ⟨v7,rfl,hr,hb7⟩
    obtain⟨a7,c7,hv,hr2,_⟩:=sl_form hr
    simp only[List.cons.injEq,and_true] at hv
    subst hv
    have HR7:=hid hr2
    have hs7:=hb7.size
    have HST7:=hid (HST6.out.then hb7)
    have HEQ:=hid (bytes_equal (blockB DT) S1 a6 a7 _ c6 _ c7 w7 (rBytes.mono (rBytes.keep HR6.out fun q hq=>hb7.block q hq.2) fun q hq=>by omega) (rBytes.mono HR7.out fun q hq=>hq.2))
    generalize hq:decide (blockB DT=S1)=q at*
    have HQ:=hid hq
    clear hq
    clear hr hr2
    go_wp2_with fail
    refine HEQ.out.mono ?_
    rintro r w8 ⟨rfl,rfl⟩
    have HRF:=hid (rBytes.mono (S':=fun q=>w.heap.size≤q∧q<w7.heap.size) (rBytes.keep HR5.out fun q hq=>(hb7.block q (by omega)).trans (hb6.block q hq.2)) fun q hq=>⟨by omega,by omega⟩)
    go_wp2
    go_ret2
    rw[HQ.out]
    exact⟨_,rfl,HRF.out,HST7.out⟩
   ·have dt:decide (st.k=0)=false:=decide_eq_false ht
    rw[if_neg ht]
    clear ht
    dsimp only
    go_enter Tryz.func168,Tryz.ntmps168
    go_wp2_with fail
    refine HA.out.mono ?_
    rintro r w0 ⟨rfl,rfl⟩
    go_wp2_with fail
    refine HI.out.mono ?_
    rintro r w1 ⟨rfl,hst1⟩
    have HST1:=hid hst1
    have HBY:=hid (hBY.out w1 hst1.1)
    clear hst1
    go_wp2_with fail
    refine HBY.out.mono ?_
    rintro r w2 ⟨rfl,hst2⟩
    have HST2:=hid (RdStep.trans HST1.out.2 hst2)
    have hG:=rd_good w2 hst2.1
    rw[dk] at hG
    have HG:=hid hG
    clear hst2 hG dk
    go_wp2_with fail
    refine HG.out.mono ?_
    rintro r w3 ⟨rfl,hb3⟩
    have HST3:=hid (HST2.out.then hb3)
    have hs3:=HST3.out.size
    have HC:=hid (hTK.out w3 HST3.out.1)
    go_wp2_with fail
    refine HC.out.mono ?_
    rintro r w4 ⟨v,rfl,hr,hst4⟩
    obtain⟨aD,cD,hv,hr2,_⟩:=sl_form hr
    simp only[List.cons.injEq,and_true] at hv
    subst hv
    have HR4:=hid hr2
    have hs4:=hst4.size
    have HST4:=hid (RdStep.trans HST3.out.2 hst4)
    have hG4:=rd_good w4 hst4.1
    rw[dt] at hG4
    have HG4:=hid hG4
    clear hr hr2 hst4 hG4 dt
    go_wp2_with fail
    refine HG4.out.mono ?_
    rintro r w5 ⟨rfl,hb5⟩
    have HST5:=hid (HST4.out.then hb5)
    have hs5:=hb5.size
    go_wp2
    go_ret2
    exact⟨_,rfl,empty_bytes rfl rfl (by omega),HST5.out⟩
  ·have d0:((y.toNat:Int)==0)=false:=by rw[beq_eq_false_iff_ne];omega
   rw[if_neg h0]
   by_cases h1:y.toNat=1
   ·have d1:((y.toNat:Int)==1)=true:=by rw[h1];rfl
    rw[if_pos h1]
    clear h0 h1
    by_cases ht:su.k=0
    ·have dt:decide (su.k=0)=true:=decide_eq_true ht
     rw[if_pos ht]
     clear ht
     dsimp only
     go_enter Tryz.func168,Tryz.ntmps168
     go_wp2_with fail
     refine HA.out.mono ?_
     rintro r w0 ⟨rfl,rfl⟩
     go_wp2_with fail
     refine HI.out.mono ?_
     rintro r w1 ⟨rfl,hst1⟩
     have HST1:=hid hst1
     have HBY:=hid (hBY.out w1 hst1.1)
     clear hst1
     go_wp2_with fail
     refine HBY.out.mono ?_
     rintro r w2 ⟨rfl,hst2⟩
     have HST2:=hid (RdStep.trans HST1.out.2 hst2)
     have hG:=rd_good w2 hst2.1
     rw[dk] at hG
     have HG:=hid hG
     clear hst2 hG dk
     go_wp2_with fail
     refine HG.out.mono ?_
     rintro r w3 ⟨rfl,hb3⟩
     have HST3:=hid (HST2.out.then hb3)
     have hs3:=HST3.out.size
     have HC:=hid (hUN.out w3 HST3.out.1)
     go_wp2_with fail
     refine HC.out.mono ?_
     rintro r w4 ⟨v,rfl,hr,hst4⟩
     obtain⟨aD,cD,hv,hr2,_⟩:=sl_form hr
     simp only[List.cons.injEq,and_true] at hv
     subst hv
     have HR4:=hid hr2
     have hs4:=hst4.size
     have HST4:=hid (RdStep.trans HST3.out.2 hst4)
     have hG4:=rd_good w4 hst4.1
     rw[dt] at hG4
     have HG4:=hid hG4
     clear hr hr2 hst4 hG4 dt
     go_wp2_with fail
     refine HG4.out.mono ?_
     rintro r w5 ⟨rfl,hb5⟩
     have HST5:=hid (HST4.out.then hb5)
     have hs5:=hb5.size
     have HR5:=hid (rBytes.mono (S':=fun q=>w3.heap.size≤q∧q<w5.heap.size) (rBytes.keep HR4.out fun q hq=>hb5.block q hq.2) fun q hq=>⟨hq.1,by omega⟩)
     have HBB:=hid (block_bytes w5 DU aD _ cD (rBytes.mono HR5.out fun q hq=>hq.2) hul)
     go_wp2_with fail
     refine HBB.out.mono ?_
     rintro r w6 ⟨v6,rfl,hr,hb6⟩
     obtain⟨a6,c6,hv,hr2,_⟩:=sl_form hr
     simp only[List.cons.injEq,and_true] at hv
     subst hv
     have HR6:=hid hr2
     have hs6:=hb6.size
     have HST6:=hid (HST5.out.then hb6)
     have HSN:=hid (hSNu.out w6 HST6.out.1)
     clear hr hr2
     go_wp2_with fail
     refine HSN.out.mono ?_
     rintro r w7 ⟨v7,rfl,hr,hb7⟩
     obtain⟨a7,c7,hv,hr2,_⟩:=sl_form hr
     simp only[List.cons.injEq,and_true] at hv
     subst hv
     have HR7:=hid hr2
     have hs7:=hb7.size
     have HST7:=hid (HST6.out.then hb7)
     have HEQ:=hid (bytes_equal (blockB DU) S2 a6 a7 _ c6 _ c7 w7 (rBytes.mono (rBytes.keep HR6.out fun q hq=>hb7.block q hq.2) fun q hq=>by omega) (rBytes.mono HR7.out fun q hq=>hq.2))
     generalize hq:decide (blockB DU=S2)=q at*
     have HQ:=hid hq
     clear hq
     clear hr hr2
     go_wp2_with fail
     refine HEQ.out.mono ?_
     rintro r w8 ⟨rfl,rfl⟩
     have HRF:=hid (rBytes.mono (S':=fun q=>w.heap.size≤q∧q<w7.heap.size) (rBytes.keep HR5.out fun q hq=>(hb7.block q (by omega)).trans (hb6.block q hq.2)) fun q hq=>⟨by omega,by omega⟩)
     go_wp2
     go_ret2
     rw[HQ.out]
     exact⟨_,rfl,HRF.out,HST7.out⟩
    ·have dt:decide (su.k=0)=false:=decide_eq_false ht
     rw[if_neg ht]
     clear ht
     dsimp only
     go_enter Tryz.func168,Tryz.ntmps168
     go_wp2_with fail
     refine HA.out.mono ?_
     rintro r w0 ⟨rfl,rfl⟩
     go_wp2_with fail
     refine HI.out.mono ?_
     rintro r w1 ⟨rfl,hst1⟩
     have HST1:=hid hst1
     have HBY:=hid (hBY.out w1 hst1.1)
     clear hst1
     go_wp2_with fail
     refine HBY.out.mono ?_
     rintro r w2 ⟨rfl,hst2⟩
     have HST2:=hid (RdStep.trans HST1.out.2 hst2)
     have hG:=rd_good w2 hst2.1
     rw[dk] at hG
     have HG:=hid hG
     clear hst2 hG dk
     go_wp2_with fail
     refine HG.out.mono ?_
     rintro r w3 ⟨rfl,hb3⟩
     have HST3:=hid (HST2.out.then hb3)
     have hs3:=HST3.out.size
     have HC:=hid (hUN.out w3 HST3.out.1)
     go_wp2_with fail
     refine HC.out.mono ?_
     rintro r w4 ⟨v,rfl,hr,hst4⟩
     obtain⟨aD,cD,hv,hr2,_⟩:=sl_form hr
     simp only[List.cons.injEq,and_true] at hv
     subst hv
     have HR4:=hid hr2
     have hs4:=hst4.size
     have HST4:=hid (RdStep.trans HST3.out.2 hst4)
     have hG4:=rd_good w4 hst4.1
     rw[dt] at hG4
     have HG4:=hid hG4
     clear hr hr2 hst4 hG4 dt
     go_wp2_with fail
     refine HG4.out.mono ?_
     rintro r w5 ⟨rfl,hb5⟩
     have HST5:=hid (HST4.out.then hb5)
     have hs5:=hb5.size
     go_wp2
     go_ret2
     exact⟨_,rfl,empty_bytes rfl rfl (by omega),HST5.out⟩
   ·have d1:((y.toNat:Int)==1)=false:=by rw[beq_eq_false_iff_ne];omega
    rw[if_neg h1]
    clear h0 h1
    have dt:decide (F1.k=0)=false:=decide_eq_false hfk
    dsimp only
    go_enter Tryz.func168,Tryz.ntmps168
    go_wp2_with fail
    refine HA.out.mono ?_
    rintro r w0 ⟨rfl,rfl⟩
    go_wp2_with fail
    refine HI.out.mono ?_
    rintro r w1 ⟨rfl,hst1⟩
    have HST1:=hid hst1
    have HBY:=hid (hBY.out w1 hst1.1)
    clear hst1
    go_wp2_with fail
    refine HBY.out.mono ?_
    rintro r w2 ⟨rfl,hst2⟩
    have HST2:=hid (RdStep.trans HST1.out.2 hst2)
    have hG:=rd_good w2 hst2.1
    rw[dk] at hG
    have HG:=hid hG
    clear hst2 hG dk
    go_wp2_with fail
    refine HG.out.mono ?_
    rintro r w3 ⟨rfl,hb3⟩
    have HST3:=hid (HST2.out.then hb3)
    have hs3:=HST3.out.size
    have HAT3:=hid (rd_at w3 HST3.out.1)
    go_wp2_with fail
    refine HAT3.out.mono ?_
    rintro r w3' ⟨rfl,rfl⟩
    have HC:=hid (hFL.out w3 HST3.out.1)
    go_wp2_with fail
    refine HC.out.mono ?_
    rintro r w4 ⟨rfl,hst4⟩
    have HST4:=hid (RdStep.trans HST3.out.2 hst4)
    have hG4:=rd_good w4 hst4.1
    rw[dt] at hG4
    have HG4:=hid hG4
    clear hst4 hG4 dt
    go_wp2_with fail
    refine HG4.out.mono ?_
    rintro r w5 ⟨rfl,hb5⟩
    have HST5:=hid (HST4.out.then hb5)
    go_wp2
    go_ret2
    exact⟨_,rfl,empty_bytes rfl rfl (by omega),HST5.out⟩
 ·have dk:decide (se.k=0)=false:=decide_eq_false hk
  rw[if_neg hk]
  clear hk hb1
  dsimp only
  go_enter Tryz.func168,Tryz.ntmps168
  go_wp2_with fail
  refine HA.out.mono ?_
  rintro r w0 ⟨rfl,rfl⟩
  go_wp2_with fail
  refine HI.out.mono ?_
  rintro r w1 ⟨rfl,hst1⟩
  have HST1:=hid hst1
  have HBY:=hid (hBY.out w1 hst1.1)
  clear hst1
  go_wp2_with fail
  refine HBY.out.mono ?_
  rintro r w2 ⟨rfl,hst2⟩
  have HST2:=hid (RdStep.trans HST1.out.2 hst2)
  have hG:=rd_good w2 hst2.1
  rw[dk] at hG
  have HG:=hid hG
  clear hst2 hG dk
  go_wp2_with fail
  refine HG.out.mono ?_
  rintro r w3 ⟨rfl,hb3⟩
  have HST3:=hid (HST2.out.then hb3)
  have hs3:=HST3.out.size
  go_wp2
  go_ret2
  exact⟨_,rfl,empty_bytes rfl rfl (by omega),HST3.out⟩
def Rs.strict(s:Rs × List UInt8 × Bool):Rs × List UInt8:=if s.1.k=0 then (if s.2.2=true then (s.1,s.2.1) else (s.1.fail 12 s.1.p,[])) else (s.1,[])
theorem block_strict(w:World){g:Nat}{B:List UInt8}{a:Option Addr}{s:Rs}(h:RdAt w g B a s)(q:Bool)(p:Nat):
  Calls Tryz.prog 283 #[.bool q,.func (Fn.func 149) #[.pointer (some ⟨g,0,none⟩)] #[],.int .i64 (p:Int)] w fun r w'=>r=.returned (.tuple #[])∧RdStep w g B a (if q=true then s else s.fail 12 p) w':=by
 have HF:=hid (rd_fail w h 12 p (by omega))
 have HH:=hid h
 clear h
 cases q
 ·rw[if_neg (by simp)]
  go_enter Tryz.func283,Tryz.ntmps283
  go_wp2_with fail
  refine HF.out.mono ?_
  rintro r w1 ⟨rfl,hst⟩
  have HST:=hid hst
  clear hst
  go_wp2
  go_end0
  exact⟨rfl,HST.out⟩
 ·rw[if_pos rfl]
  go_enter Tryz.func283,Tryz.ntmps283
  go_wp2
  go_end0
  exact⟨rfl,RdStep.refl HH.out⟩
theorem block_read(w:World){g:Nat}{B:List UInt8}{a:Option Addr}{s:Rs}(h:RdAt w g B a s)(hB:B.length≤1000000000)(most:Int)(hm: -9223372036854775808≤most∧most≤9223372036854775807):
  Calls Tryz.prog 156 #[.pointer (some ⟨g,0,none⟩),.int .i64 most] w fun r w'=>∃v,r=.returned v∧rBytes.r (fun q=>w.heap.size≤q∧q<w'.heap.size) w' [v] (Rs.strict (s.loose B most)).2∧RdStep w g B a (Rs.strict (s.loose B most)).1 w':=by
 have HLS:=hid (block_loose w h hB most hm)
 have hgl:=h.blk.lt
 unfold Rs.strict
 generalize s.loose B most=L at*
 obtain⟨s1,D,q⟩:=L
 dsimp only at*
 have hfk:=Rs.fail_k (s:=s1) (c:=12) (at_:=(s1.p:Int)) (by omega)
 have hfb:s1.k≠0→s1.fail 12 s1.p=s1:=fun hk=>Rs.fail_of_bad hk
 have hSC:=hid (fun (W:World) (h:RdAt W g B a s1)=>block_strict W h q s1.p)
 clear h
 by_cases hk:s1.k=0
 ·rw[if_pos hk]
  cases q
  ·have d1:decide ((s1.fail 12 s1.p).k=0)=false:=decide_eq_false hfk
   rw[if_neg (by simp)]
   rw[if_neg (by simp)] at hSC
   generalize s1.fail 12 s1.p=s2 at*
   clear hk hfk hfb
   go_enter Tryz.func156,Tryz.ntmps156
   go_wp2_with fail
   refine HLS.out.mono ?_
   rintro r w1 ⟨v,rfl,hr,hst⟩
   obtain⟨aD,cD,hv,hr2,_⟩:=sl_form hr
   simp only[List.cons.injEq,and_true] at hv
   subst hv
   have HST:=hid hst
   have HR:=hid hr2
   have hs1:=hst.size
   have HAT:=hid (rd_at w1 hst.1)
   have HSC:=hid (hSC.out w1 hst.1)
   clear hr hr2 hst
   go_wp2_with fail
   refine HAT.out.mono ?_
   rintro r w1' ⟨rfl,rfl⟩
   go_wp2_with fail
   refine HSC.out.mono ?_
   rintro r w2 ⟨rfl,hst2⟩
   have HST2:=hid (RdStep.trans HST.out.2 hst2)
   have HRK:=hid (rBytes.mono (S':=fun q=>w.heap.size≤q∧q<w2.heap.size) (rBytes.keep HR.out fun q hq=>hst2.2.block q hq.2 (by omega)) fun q hq=>⟨hq.1,Nat.lt_of_lt_of_le hq.2 hst2.size⟩)
   have hG:=rd_good w2 hst2.1
   rw[d1] at hG
   have HG:=hid hG
   clear hst2 hG d1
   go_wp2_with fail
   refine HG.out.mono ?_
   rintro r w3 ⟨rfl,hb3⟩
   have HST3:=hid (HST2.out.then hb3)
   go_wp2
   go_ret
   exact⟨_,rfl,empty_bytes rfl rfl (by omega),HST3.out⟩
  ·have d1:decide (s1.k=0)=true:=decide_eq_true hk
   rw[if_pos rfl]
   rw[if_pos rfl] at hSC
   clear hk hfk hfb
   go_enter Tryz.func156,Tryz.ntmps156
   go_wp2_with fail
   refine HLS.out.mono ?_
   rintro r w1 ⟨v,rfl,hr,hst⟩
   obtain⟨aD,cD,hv,hr2,_⟩:=sl_form hr
   simp only[List.cons.injEq,and_true] at hv
   subst hv
   have HST:=hid hst
   have HR:=hid hr2
   have hs1:=hst.size
   have HAT:=hid (rd_at w1 hst.1)
   have HSC:=hid (hSC.out w1 hst.1)
   clear hr hr2 hst
   go_wp2_with fail
   refine HAT.out.mono ?_
   rintro r w1' ⟨rfl,rfl⟩
   go_wp2_with fail
   refine HSC.out.mono ?_
   rintro r w2 ⟨rfl,hst2⟩
   have HST2:=hid (RdStep.trans HST.out.2 hst2)
   have HRK:=hid (rBytes.mono (S':=fun q=>w.heap.size≤q∧q<w2.heap.size) (rBytes.keep HR.out fun q hq=>hst2.2.block q hq.2 (by omega)) fun q hq=>⟨hq.1,Nat.lt_of_lt_of_le hq.2 hst2.size⟩)
   have hG:=rd_good w2 hst2.1
   rw[d1] at hG
   have HG:=hid hG
   clear hst2 hG d1
   go_wp2_with fail
   refine HG.out.mono ?_
   rintro r w3 ⟨rfl,hb3⟩
   have HST3:=hid (HST2.out.then hb3)
   have HRK3:=hid (rBytes.mono (S':=fun q=>w.heap.size≤q∧q<w3.heap.size) (rBytes.keep HRK.out fun q hq=>hb3.block q hq.2) fun q hq=>⟨hq.1,Nat.lt_of_lt_of_le hq.2 hb3.size⟩)
   go_wp2
   go_ret
   exact⟨_,rfl,HRK3.out,HST3.out⟩
 ·rw[if_neg hk]
  have hfb2:=hfb hk
  have d1:decide (s1.k=0)=false:=decide_eq_false hk
  have hSC2:Hid (∀(W:World) (h:RdAt W g B a s1),Calls Tryz.prog 283 #[.bool q,.func (Fn.func 149) #[.pointer (some ⟨g,0,none⟩)] #[],.int .i64 (s1.p:Int)] W fun r w'=>r=.returned (.tuple #[])∧RdStep W g B a s1 w'):=hid (fun W h=>by
   have:=hSC.out W h
   rw[hfb2] at this
   cases q
   ·rw[if_neg (by simp)] at this;exact this
   ·rw[if_pos rfl] at this;exact this)
  clear hk hfk hfb hfb2 hSC
  have hSC:=hSC2
  clear hSC2
  cases q
  all_goals
   go_enter Tryz.func156,Tryz.ntmps156
   go_wp2_with fail
   refine HLS.out.mono ?_
   rintro r w1 ⟨v,rfl,hr,hst⟩
   obtain⟨aD,cD,hv,hr2,_⟩:=sl_form hr
   simp only[List.cons.injEq,and_true] at hv
   subst hv
   have HST:=hid hst
   have HR:=hid hr2
   have hs1:=hst.size
   have HAT:=hid (rd_at w1 hst.1)
   have HSC:=hid (hSC.out w1 hst.1)
   clear hr hr2 hst
   go_wp2_with fail
   refine HAT.out.mono ?_
   rintro r w1' ⟨rfl,rfl⟩
   go_wp2_with fail
   refine HSC.out.mono ?_
   rintro r w2 ⟨rfl,hst2⟩
   have HST2:=hid (RdStep.trans HST.out.2 hst2)
   have HRK:=hid (rBytes.mono (S':=fun q=>w.heap.size≤q∧q<w2.heap.size) (rBytes.keep HR.out fun q hq=>hst2.2.block q hq.2 (by omega)) fun q hq=>⟨hq.1,Nat.lt_of_lt_of_le hq.2 hst2.size⟩)
   have hG:=rd_good w2 hst2.1
   rw[d1] at hG
   have HG:=hid hG
   clear hst2 hG d1
   go_wp2_with fail
   refine HG.out.mono ?_
   rintro r w3 ⟨rfl,hb3⟩
   have HST3:=hid (HST2.out.then hb3)
   go_wp2
   go_ret
   exact⟨_,rfl,empty_bytes rfl rfl (by omega),HST3.out⟩
def getR(r:Rs × List UInt8):List UInt8 × Nat × Int × Int:=if r.1.k=0 then (r.2,r.1.p,0,0) else ([],0,r.1.k,r.1.f)
end Go.Proofs.YtmioakocnebceaaGreat
namespace Go.Bs
open Go.RowKit
def crcStep(c:Nat):Nat:=if c%2=1 then (c/2)^^^2197175160 else c/2
def crc4(c:Nat):Nat:=crcStep (crcStep (crcStep (crcStep c)))
def crcByte(c:Nat)(x:UInt8):Nat:=crc4 (crc4 (c^^^x.toNat))
def crcAdd(c:Nat)(D:List UInt8):Nat:=D.foldl crcByte c
def crcSum(D:List UInt8):Nat:=4294967295-crcAdd 4294967295 D
theorem xor_lt32{a b:Nat}(ha:a<4294967296)(hb:b<4294967296):a^^^b<4294967296:=Nat.xor_lt_two_pow (n:=32) ha hb
theorem crcStep_lt{c:Nat}(h:c<4294967296):crcStep c<4294967296:=by
 unfold crcStep
 split
 ·exact xor_lt32 (by omega) (by decide)
 ·omega
theorem crc4_lt{c:Nat}(h:c<4294967296):crc4 c<4294967296:=crcStep_lt (crcStep_lt (crcStep_lt (crcStep_lt h)))
theorem crcByte_lt{c:Nat}{x:UInt8}(h:c<4294967296):crcByte c x<4294967296:=crc4_lt (crc4_lt (xor_lt32 h (by have:=x.toNat_lt;omega)))
theorem crcAdd_lt:∀(D:List UInt8) {c:Nat},c<4294967296→crcAdd c D<4294967296
 | [],c,h=>h
 | x::D,c,h=>crcAdd_lt D (crcByte_lt h)
theorem crcSum_lt(D:List UInt8):crcSum D<4294967296:=by unfold crcSum;omega
theorem xor_even(a d:Nat):(a^^^2*d)%2=a%2:=by
 have h:=Nat.xor_mod_two_pow (a:=a) (b:=2*d) (n:=1)
 rw[Nat.pow_one,show 2*d%2=0 by omega,Nat.xor_zero] at h
 exact h
theorem crcStep_xor(a d:Nat):crcStep (a^^^2*d)=crcStep a^^^d:=by
 have h1:=xor_even a d
 have h2:(a^^^2*d)/2=a/2^^^d:=by rw[Nat.xor_div_two];congr 1;omega
 unfold crcStep
 rw[h1,h2]
 split
 ·rw[Nat.xor_assoc,Nat.xor_assoc,Nat.xor_comm d]
 ·rfl
theorem crc4_xor(a h:Nat):crc4 (a^^^16*h)=crc4 a^^^h:=by
 unfold crc4
 rw[show 16*h=2*(2*(2*(2*h))) by omega,crcStep_xor,crcStep_xor,crcStep_xor,crcStep_xor]
theorem xor16(h l:Nat)(hl:l<16):l^^^16*h=16*h+l:=by
 have h1:(l^^^16*h)/2=l/2^^^8*h:=by rw[Nat.xor_div_two];congr 1;omega
 have h2:(l/2^^^8*h)/2=l/4^^^4*h:=by rw[Nat.xor_div_two];congr 1<;>omega
 have h3:(l/4^^^4*h)/2=l/8^^^2*h:=by rw[Nat.xor_div_two];congr 1<;>omega
 have h4:(l/8^^^2*h)/2=h:=by
  rw[Nat.xor_div_two,show l/8/2=0 by omega,show 2*h/2=h by omega,Nat.zero_xor]
 have g1:(l^^^16*h)%2=l%2:=by rw[show 16*h=2*(8*h) by omega];exact xor_even _ _
 have g2:(l/2^^^8*h)%2=l/2%2:=by rw[show 8*h=2*(4*h) by omega];exact xor_even _ _
 have g3:(l/4^^^4*h)%2=l/4%2:=by rw[show 4*h=2*(2*h) by omega];exact xor_even _ _
 have g4:(l/8^^^2*h)%2=l/8%2:=xor_even _ _
 omega
theorem crc4_look(c:Nat):c/16^^^crc4 (c%16)=crc4 c:=by
 have h:=crc4_xor (c%16) (c/16)
 rw[xor16 _ _ (by omega),show 16*(c/16)+c%16=c by omega] at h
 rw[h,Nat.xor_comm]
def tabV(k:Nat):Array Value:=((List.range 16).map fun j=>Value.int .u32 ((if j<k then crc4 j else 0:Nat):Int)).toArray
theorem tabV_at(k j:Nat)(hj:j<16):(tabV k)[j]? =some (.int .u32 ((if j<k then crc4 j else 0:Nat):Int)):=by
 simp[tabV,hj]
theorem tabV_set(k:Nat)(hk:k<16):(tabV k).setIfInBounds k (.int .u32 (crc4 k:Int))=tabV (k+1):=by
 apply Array.ext_getElem?
 intro j
 rw[Array.getElem?_setIfInBounds]
 by_cases hj:j<16
 ·rw[tabV_at _ _ hj,tabV_at _ _ hj]
  by_cases e:k=j
  ·subst e;simp[tabV,hk]
  ·rw[if_neg e]
   congr 2
   by_cases h:j<k
   ·rw[if_pos h,if_pos (by omega)]
   ·rw[if_neg h,if_neg (by omega)]
 ·have h1:∀m,(tabV m)[j]? =none:=fun m=>by simp[tabV];omega
  rw[h1,h1]
  split<;>simp [tabV];omega
def iter4:Nat→Nat→Nat
 | 0,c=>c
 | n+1,c=>crcStep (iter4 n c)
theorem iter4_lt{c:Nat}(h:c<4294967296):∀n,iter4 n c<4294967296
 | 0=>h
 | n+1=>crcStep_lt (iter4_lt h n)
theorem and1_u32{c:Nat}(h:c<4294967296):bits BinOp.and IntKind.u32 (c:Int) 1=((c%2:Nat):Int):=by
 have:=u32_and_nat c 1 h (by decide)
 rw[nat_mask1] at this
 exact this
theorem and15_u32{c:Nat}(h:c<4294967296):bits BinOp.and IntKind.u32 (c:Int) 15=((c%16:Nat):Int):=by
 have:=u32_and_nat c 15 h (by decide)
 rw[nat_mask4] at this
 exact this
theorem poly_u32{c:Nat}(h:c<4294967296):bits BinOp.xor IntKind.u32 ((c:Int)/2) 2197175160=((c/2^^^2197175160:Nat):Int):=by
 have:=u32_xor_nat (c/2) 2197175160 (by omega) (by decide)
 rw[←this]
 rfl
theorem not_u32{c:Nat}(h:c<4294967296):bits BinOp.xor IntKind.u32 IntKind.u32.max (c:Int)=((4294967295-c:Nat):Int):=by
 have e:IntKind.u32.max=((4294967295:Nat):Int):=rfl
 rw[e,u32_xor_nat _ _ (by decide) h]
 have h1:4294967295^^^c=4294967295-c:=by
  have h2:=BitVec.toNat_not (x:=BitVec.ofNat 32 c)
  rw[BitVec.not_def,BitVec.toNat_xor,BitVec.toNat_allOnes,BitVec.toNat_ofNat,Nat.mod_eq_of_lt (by omega)] at h2
  exact h2
 rw[h1]
end Go.Bs
namespace Go.Proofs.YtmioakocnebceaaGreat
open Go.RowKit Go.Bs Go.Maps
theorem crc_step(c:Nat)(hc:c<4294967296)(w:World):
  Calls Tryz.prog 371 #[.int .u32 c] w fun r w'=>r=.returned (.int .u32 (crcStep c))∧w=w':=by
 by_cases h:c%2=1
 ·have d1:(bits BinOp.and IntKind.u32 (c:Int) 1==1)=true:=by rw[and1_u32 hc];simp;omega
  have hff:Hid ((crcStep c:Int)=bits BinOp.xor IntKind.u32 ((c:Int)/2) 2197175160):=hid (by rw[poly_u32 hc];unfold crcStep;rw[if_pos h])
  clear h
  go_enter Tryz.func371,Tryz.ntmps371
  go_wp2
  go_ret
  exact⟨by rw[hff.out];rfl,rfl⟩
 ·have d1:(bits BinOp.and IntKind.u32 (c:Int) 1==1)=false:=by rw[and1_u32 hc];simp;omega
  have hff:Hid ((crcStep c:Int)=(c:Int)/2):=hid (by unfold crcStep;rw[if_neg h];rfl)
  clear h
  go_enter Tryz.func371,Tryz.ntmps371
  go_wp2
  go_ret
  exact⟨by rw[hff.out];rfl,rfl⟩
theorem crc_begin(w:World):Calls Tryz.prog 215 #[] w fun r w'=>r=.returned (.int .u32 4294967295)∧w=w':=by
 go_enter Tryz.func215,Tryz.ntmps215
 go_wp2
 go_ret
 exact⟨rfl,rfl⟩
theorem crc_end(c:Nat)(hc:c<4294967296)(w:World):
  Calls Tryz.prog 213 #[.int .u32 c] w fun r w'=>r=.returned (.int .u32 ((4294967295-c:Nat):Int))∧w=w':=by
 have hff:=hid (not_u32 hc)
 go_enter Tryz.func213,Tryz.ntmps213
 go_wp2
 go_ret
 exact⟨by rw[←hff.out];rfl,rfl⟩
theorem below_fill16{w wo:World}{B g:Nat}(h:Below B w wo)(hg:B≤g)(v0 v1 v2 v3 v4 v5 v6 v7 v8 v9 v10 v11 v12 v13 v14 v15:Value):Below B w (((((((((((((((((wo).setCell ⟨g,0,none⟩ v0).setCell ⟨g,1,none⟩ v1).setCell ⟨g,2,none⟩ v2).setCell ⟨g,3,none⟩ v3).setCell ⟨g,4,none⟩ v4).setCell ⟨g,5,none⟩ v5).setCell ⟨g,6,none⟩ v6).setCell ⟨g,7,none⟩ v7).setCell ⟨g,8,none⟩ v8).setCell ⟨g,9,none⟩ v9).setCell ⟨g,10,none⟩ v10).setCell ⟨g,11,none⟩ v11).setCell ⟨g,12,none⟩ v12).setCell ⟨g,13,none⟩ v13).setCell ⟨g,14,none⟩ v14).setCell ⟨g,15,none⟩ v15):=
 ((((((((((((((((h).setCell (p:=⟨g,0,none⟩) hg v0).setCell (p:=⟨g,1,none⟩) hg v1).setCell (p:=⟨g,2,none⟩) hg v2).setCell (p:=⟨g,3,none⟩) hg v3).setCell (p:=⟨g,4,none⟩) hg v4).setCell (p:=⟨g,5,none⟩) hg v5).setCell (p:=⟨g,6,none⟩) hg v6).setCell (p:=⟨g,7,none⟩) hg v7).setCell (p:=⟨g,8,none⟩) hg v8).setCell (p:=⟨g,9,none⟩) hg v9).setCell (p:=⟨g,10,none⟩) hg v10).setCell (p:=⟨g,11,none⟩) hg v11).setCell (p:=⟨g,12,none⟩) hg v12).setCell (p:=⟨g,13,none⟩) hg v13).setCell (p:=⟨g,14,none⟩) hg v14).setCell (p:=⟨g,15,none⟩) hg v15
theorem tabV16:tabV 16=#[.int .u32 (crc4 0:Nat),.int .u32 (crc4 1:Nat),.int .u32 (crc4 2:Nat),.int .u32 (crc4 3:Nat),.int .u32 (crc4 4:Nat),.int .u32 (crc4 5:Nat),.int .u32 (crc4 6:Nat),.int .u32 (crc4 7:Nat),.int .u32 (crc4 8:Nat),.int .u32 (crc4 9:Nat),.int .u32 (crc4 10:Nat),.int .u32 (crc4 11:Nat),.int .u32 (crc4 12:Nat),.int .u32 (crc4 13:Nat),.int .u32 (crc4 14:Nat),.int .u32 (crc4 15:Nat)]:=rfl
theorem crc_table(w:World):
  Calls Tryz.prog 317 #[] w fun r w'=>r=.returned (.agg (tabV 16))∧Below w.heap.size w w':=by
 go_enter Tryz.func317,Tryz.ntmps317
 go_wp2_with fail
 refine wp_world (fun W=>Below w.heap.size w W∧W.heap.size=w.heap.size+2∧Blk W w.heap.size 374 (tabV 0)∧Blk W (w.heap.size+1) 374 (tabV 0)) ⟨by (repeat (first | exact Below.refl _ _ | assumption | (refine below_alloc ?_ _) | (refine Below.setCell ?_ (by first | omega | (simp;done) | (simp;omega)) _) | (refine Below.drew ?_) | (refine below_drewN ?_ _) | (refine below_then (by assumption) ?_))),by simp,(Blk.new w _ _).alloc _,Blk.new1 w _ _ _⟩ ?_
 intro W ⟨hbW,hzW,q0,q1⟩
 have Q0:=hid q0;have Q1:=hid q1;have HZ:=hid hzW
 clear q0 q1 hzW
 go_loopw [4] (fun i wr=>∃k:Nat,k≤16∧i=.int .i64 k∧Tch (·=w.heap.size+1) W wr∧Blk wr (w.heap.size+1) 374 (tabV k)) (fun i _=>16-(intOf i).toNat)
 case atStart=>exact ⟨0,by omega,rfl,Tch.refl _ _,Q1.out⟩
 case round=>
  obtain⟨k,hk,rfl,ht,hB⟩:=hrel
  obtain⟨wo,hwo⟩:∃wo:World,wo=wr:=⟨_,rfl⟩
  subst hwo
  have HT:=hid ht;have HB:=hid hB
  clear ht hB
  by_cases hlt:k<16
  ·have i1:(k:Int)<16:=by omega
   have e1:(k:Int)%4294967296=k:=by omega
   go_wp2_with fail
   go_loopw [3,9] (fun c j w'=>∃n:Nat,n≤4∧j=.int .i64 n∧c=.int .u32 (iter4 n k:Nat)∧w'=wo) (fun _ j _=>4-(intOf j).toNat)
   case atStart=>exact ⟨0,by omega,rfl,by simp[iter4,e1],rfl⟩
   case round=>
    obtain⟨n,hn,rfl,rfl,rfl⟩:=hrel
    by_cases hl4:n<4
    ·have i2:(n:Int)<4:=by omega
     have HS:=hid (crc_step (iter4 n k) (iter4_lt (by omega) n) wr)
     go_wp2_with fail
     refine HS.out.mono ?_
     rintro r w1 ⟨rfl,rfl⟩
     go_wp2
     go_roundw
     case rel=>exact ⟨n+1,by omega,by go_num,rfl,trivial⟩
     case measure=>simp [intOf];omega
    ·obtain rfl:n=4:=by omega
     have hB2:Blk (wr.setCell ⟨w.heap.size+1,k,none⟩ (.int .u32 (iter4 4 k:Nat))) (w.heap.size+1) 374 (tabV (k+1)):=by
      rw[←tabV_set k hlt];exact HB.out.set k _
     have c9:wr.cell? ⟨w.heap.size+1,k,none⟩=some (.int .u32 ((if k<k then crc4 k else 0:Nat):Int)):=(HB.out.cell k).trans (tabV_at k k hlt)
     have f9:=HB.out.free k
     have HB2:=hid hB2
     have HT2:=hid (HT.out.setCell (p:=⟨w.heap.size+1,k,none⟩) (fun _=>rfl) (.int .u32 (iter4 4 k:Nat)))
     clear hB2
     go_wp2
     go_roundw
     case rel=>exact ⟨k+1,by omega,by go_num,HT2.out,HB2.out⟩
     case measure=>simp [intOf];omega
  ·obtain rfl:k=16:=by omega
   obtain⟨v0,v1,v2,v3,v4,v5,v6,v7,v8,v9,v10,v11,v12,v13,v14,v15,hv⟩:∃v0 v1 v2 v3 v4 v5 v6 v7 v8 v9 v10 v11 v12 v13 v14 v15:Nat,tabV 16=#[Value.int .u32 (v0:Int),Value.int .u32 (v1:Int),Value.int .u32 (v2:Int),Value.int .u32 (v3:Int),Value.int .u32 (v4:Int),Value.int .u32 (v5:Int),Value.int .u32 (v6:Int),Value.int .u32 (v7:Int),Value.int .u32 (v8:Int),Value.int .u32 (v9:Int),Value.int .u32 (v10:Int),Value.int .u32 (v11:Int),Value.int .u32 (v12:Int),Value.int .u32 (v13:Int),Value.int .u32 (v14:Int),Value.int .u32 (v15:Int)]:=⟨_,_,_,_,_,_,_,_,_,_,_,_,_,_,_,_,tabV16⟩
   have hB9:=HB.out
   rw[hv] at hB9
   have HV:=hid hv
   have hB0:Blk wo w.heap.size 374 (tabV 0):=Q0.out.tch HT.out (by simp)
   have y0:wo.cell? ⟨w.heap.size+1,0,none⟩=some (.int .u32 (v0:Int)):=hB9.cell 0
   have z0:wo.cell? ⟨w.heap.size,0,none⟩=some (.int .u32 0):=(hB0.cell 0).trans (tabV_at 0 0 (by decide))
   have f0:=hB0.free 0
   have y1:wo.cell? ⟨w.heap.size+1,1,none⟩=some (.int .u32 (v1:Int)):=hB9.cell 1
   have z1:wo.cell? ⟨w.heap.size,1,none⟩=some (.int .u32 0):=(hB0.cell 1).trans (tabV_at 0 1 (by decide))
   have f1:=hB0.free 1
   have y2:wo.cell? ⟨w.heap.size+1,2,none⟩=some (.int .u32 (v2:Int)):=hB9.cell 2
   have z2:wo.cell? ⟨w.heap.size,2,none⟩=some (.int .u32 0):=(hB0.cell 2).trans (tabV_at 0 2 (by decide))
   have f2:=hB0.free 2
   have y3:wo.cell? ⟨w.heap.size+1,3,none⟩=some (.int .u32 (v3:Int)):=hB9.cell 3
   have z3:wo.cell? ⟨w.heap.size,3,none⟩=some (.int .u32 0):=(hB0.cell 3).trans (tabV_at 0 3 (by decide))
   have f3:=hB0.free 3
   have y4:wo.cell? ⟨w.heap.size+1,4,none⟩=some (.int .u32 (v4:Int)):=hB9.cell 4
   have z4:wo.cell? ⟨w.heap.size,4,none⟩=some (.int .u32 0):=(hB0.cell 4).trans (tabV_at 0 4 (by decide))
   have f4:=hB0.free 4
   have y5:wo.cell? ⟨w.heap.size+1,5,none⟩=some (.int .u32 (v5:Int)):=hB9.cell 5
   have z5:wo.cell? ⟨w.heap.size,5,none⟩=some (.int .u32 0):=(hB0.cell 5).trans (tabV_at 0 5 (by decide))
   have f5:=hB0.free 5
   have y6:wo.cell? ⟨w.heap.size+1,6,none⟩=some (.int .u32 (v6:Int)):=hB9.cell 6
   have z6:wo.cell? ⟨w.heap.size,6,none⟩=some (.int .u32 0):=(hB0.cell 6).trans (tabV_at 0 6 (by decide))
   have f6:=hB0.free 6
   have y7:wo.cell? ⟨w.heap.size+1,7,none⟩=some (.int .u32 (v7:Int)):=hB9.cell 7
   have z7:wo.cell? ⟨w.heap.size,7,none⟩=some (.int .u32 0):=(hB0.cell 7).trans (tabV_at 0 7 (by decide))
   have f7:=hB0.free 7
   have y8:wo.cell? ⟨w.heap.size+1,8,none⟩=some (.int .u32 (v8:Int)):=hB9.cell 8
   have z8:wo.cell? ⟨w.heap.size,8,none⟩=some (.int .u32 0):=(hB0.cell 8).trans (tabV_at 0 8 (by decide))
   have f8:=hB0.free 8
   have y9:wo.cell? ⟨w.heap.size+1,9,none⟩=some (.int .u32 (v9:Int)):=hB9.cell 9
   have z9:wo.cell? ⟨w.heap.size,9,none⟩=some (.int .u32 0):=(hB0.cell 9).trans (tabV_at 0 9 (by decide))
   have f9:=hB0.free 9
   have y10:wo.cell? ⟨w.heap.size+1,10,none⟩=some (.int .u32 (v10:Int)):=hB9.cell 10
   have z10:wo.cell? ⟨w.heap.size,10,none⟩=some (.int .u32 0):=(hB0.cell 10).trans (tabV_at 0 10 (by decide))
   have f10:=hB0.free 10
   have y11:wo.cell? ⟨w.heap.size+1,11,none⟩=some (.int .u32 (v11:Int)):=hB9.cell 11
   have z11:wo.cell? ⟨w.heap.size,11,none⟩=some (.int .u32 0):=(hB0.cell 11).trans (tabV_at 0 11 (by decide))
   have f11:=hB0.free 11
   have y12:wo.cell? ⟨w.heap.size+1,12,none⟩=some (.int .u32 (v12:Int)):=hB9.cell 12
   have z12:wo.cell? ⟨w.heap.size,12,none⟩=some (.int .u32 0):=(hB0.cell 12).trans (tabV_at 0 12 (by decide))
   have f12:=hB0.free 12
   have y13:wo.cell? ⟨w.heap.size+1,13,none⟩=some (.int .u32 (v13:Int)):=hB9.cell 13
   have z13:wo.cell? ⟨w.heap.size,13,none⟩=some (.int .u32 0):=(hB0.cell 13).trans (tabV_at 0 13 (by decide))
   have f13:=hB0.free 13
   have y14:wo.cell? ⟨w.heap.size+1,14,none⟩=some (.int .u32 (v14:Int)):=hB9.cell 14
   have z14:wo.cell? ⟨w.heap.size,14,none⟩=some (.int .u32 0):=(hB0.cell 14).trans (tabV_at 0 14 (by decide))
   have f14:=hB0.free 14
   have y15:wo.cell? ⟨w.heap.size+1,15,none⟩=some (.int .u32 (v15:Int)):=hB9.cell 15
   have z15:wo.cell? ⟨w.heap.size,15,none⟩=some (.int .u32 0):=(hB0.cell 15).trans (tabV_at 0 15 (by decide))
   have f15:=hB0.free 15
   clear hB9 hv HB
   clear hB0
   go_wp2
   refine bodyPost_ret (v:=.agg #[Value.int .u32 (v0:Int),Value.int .u32 (v1:Int),Value.int .u32 (v2:Int),Value.int .u32 (v3:Int),Value.int .u32 (v4:Int),Value.int .u32 (v5:Int),Value.int .u32 (v6:Int),Value.int .u32 (v7:Int),Value.int .u32 (v8:Int),Value.int .u32 (v9:Int),Value.int .u32 (v10:Int),Value.int .u32 (v11:Int),Value.int .u32 (v12:Int),Value.int .u32 (v13:Int),Value.int .u32 (v14:Int),Value.int .u32 (v15:Int)]) (by simp[results,Tryz.results317,go_sem,z0,z1,z2,z3,z4,z5,z6,z7,z8,z9,z10,z11,z12,z13,z14,z15]) rfl ⟨by rw[HV.out],?_⟩
   have hb2:Below w.heap.size W wo:=HT.out.to_below (by have:=HZ.out;omega) (by intro b _ e;omega)
   have hb3:=hbW.trans hb2
   exact below_fill16 hb3 (Nat.le_refl _) (.int .u32 (v0:Int)) (.int .u32 (v1:Int)) (.int .u32 (v2:Int)) (.int .u32 (v3:Int)) (.int .u32 (v4:Int)) (.int .u32 (v5:Int)) (.int .u32 (v6:Int)) (.int .u32 (v7:Int)) (.int .u32 (v8:Int)) (.int .u32 (v9:Int)) (.int .u32 (v10:Int)) (.int .u32 (v11:Int)) (.int .u32 (v12:Int)) (.int .u32 (v13:Int)) (.int .u32 (v14:Int)) (.int .u32 (v15:Int))
theorem look_u32{y:Nat}(h:y<4294967296):bits BinOp.xor IntKind.u32 ((y:Int)/16) ((crc4 (y%16):Nat):Int)=((crc4 y:Nat):Int):=by
 have:=u32_xor_nat (y/16) (crc4 (y%16)) (by omega) (crc4_lt (by omega))
 rw[crc4_look] at this
 rw[←this]
 rfl
theorem into_u32{c:Nat}(h:c<4294967296)(x:UInt8):bits BinOp.xor IntKind.u32 (c:Int) ((x.toNat:Int)%4294967296)=((c^^^x.toNat:Nat):Int):=by
 have hx:=x.toNat_lt
 rw[←u32_xor_nat c x.toNat h (by omega),show (x.toNat:Int)%4294967296=(x.toNat:Int) by omega]
theorem crc_add(c:Nat)(hc:c<4294967296)(D:List UInt8)(ad:Option Addr)(nd cd:Nat)(w:World)(hD:rBytes.r (·<w.heap.size) w [.slice ad nd cd] D):
  Calls Tryz.prog 214 #[.int .u32 c,.slice ad nd cd] w fun r w'=>r=.returned (.int .u32 (crcAdd c D:Nat))∧Below w.heap.size w w':=by
 obtain⟨rfl,hm,_,_⟩:=sl_len hD
 have HD:=hid hD;clear hD
 go_enter Tryz.func214,Tryz.ntmps214
 go_wp2_with fail
 refine (crc_table w).mono ?_
 rintro r w1 ⟨rfl,hb1⟩
 obtain⟨v0,v1,v2,v3,v4,v5,v6,v7,v8,v9,v10,v11,v12,v13,v14,v15,hv⟩:∃v0 v1 v2 v3 v4 v5 v6 v7 v8 v9 v10 v11 v12 v13 v14 v15:Nat,tabV 16=#[Value.int .u32 (v0:Int),Value.int .u32 (v1:Int),Value.int .u32 (v2:Int),Value.int .u32 (v3:Int),Value.int .u32 (v4:Int),Value.int .u32 (v5:Int),Value.int .u32 (v6:Int),Value.int .u32 (v7:Int),Value.int .u32 (v8:Int),Value.int .u32 (v9:Int),Value.int .u32 (v10:Int),Value.int .u32 (v11:Int),Value.int .u32 (v12:Int),Value.int .u32 (v13:Int),Value.int .u32 (v14:Int),Value.int .u32 (v15:Int)]:=⟨_,_,_,_,_,_,_,_,_,_,_,_,_,_,_,_,tabV16⟩
 rw[hv]
 have HV:=hid hv
 clear hv
 go_wp2_with fail
 refine wp_world (fun W=>Below w.heap.size w W∧w1.heap.size<W.heap.size∧Blk W w1.heap.size 374 (tabV 16)) ⟨by (repeat (first | with_reducible exact Below.refl _ _ | with_reducible assumption | (with_reducible refine below_alloc ?_ _) | (with_reducible refine Below.setCell ?_ (by first | omega | (simp;done) | (simp;omega)) _) | (with_reducible refine Below.drew ?_) | (with_reducible refine below_drewN ?_ _) | (refine below_then (by with_reducible assumption) ?_))),by simp,by rw[HV.out];exact Blk.new w1 _ _⟩ ?_
 intro W ⟨hbW,hzW,hQ⟩
 have HQ:=hid hQ;clear hQ
 go_wp2_with fail
 go_loopw [0,11] (fun s i wr=>∃(k d:Nat),k≤D.length∧i=.int .i64 k∧s=.int .u32 d∧d<4294967296∧Hid (crcAdd c D=crcAdd d (D.drop k))∧wr=W) (fun _ i _=>D.length-(intOf i).toNat)
 case atStart=>exact ⟨0,c,Nat.zero_le _,rfl,rfl,hc,hid rfl,rfl⟩
 case round=>
  obtain⟨k,d,hk,rfl,rfl,hd,hf,rfl⟩:=hrel
  by_cases hlt:k<D.length
  ·obtain⟨b,o,hA,hbb,hx⟩:=byte_at (lift HD.out hbW) hlt
   subst hA
   have hst:=hid (show crcAdd d (D.drop k)=crcAdd (crcByte d D[k]) (D.drop (k+1)) by rw[List.drop_eq_getElem_cons hlt];rfl)
   generalize D[k]=x at*
   have i1:(k:Int)<(D.length:Int):=by omega
   have hb1:=hid (crcByte_lt (x:=x) hd)
   have hcb:=hid (show crcByte d x=crc4 (crc4 (d^^^x.toNat)) from rfl)
   have hy:d^^^x.toNat<4294967296:=xor_lt32 hd (by have:=x.toNat_lt;omega)
   have e1:=into_u32 hd x
   generalize d^^^x.toNat=y at*
   have hz:crc4 y<4294967296:=crc4_lt hy
   have e2:=and15_u32 hy
   have e3:=look_u32 hy
   have m1:((y%16:Nat):Int)<16:=by omega
   have c1:wr.cell? ⟨w1.heap.size,y%16,none⟩=some (.int .u32 (crc4 (y%16):Nat)):=by
    have h:=(HQ.out.cell (y%16)).trans (tabV_at 16 (y%16) (by omega))
    rw[if_pos (by omega)] at h;exact h
   generalize crc4 (y%16)=t1 at*
   generalize y%16=m at*
   generalize crc4 y=z at*
   have e4:=and15_u32 hz
   have e5:=look_u32 hz
   have m2:((z%16:Nat):Int)<16:=by omega
   have c2:wr.cell? ⟨w1.heap.size,z%16,none⟩=some (.int .u32 (crc4 (z%16):Nat)):=by
    have h:=(HQ.out.cell (z%16)).trans (tabV_at 16 (z%16) (by omega))
    rw[if_pos (by omega)] at h;exact h
   generalize crc4 (z%16)=t2 at*
   generalize z%16=n at*
   generalize crc4 z=q at*
   go_wp2
   go_roundw
   case rel=>exact ⟨k+1,q,by omega,by go_num,rfl,by have:=hb1.out;rw[hcb.out] at this;exact this,hid (by rw[hf.out,hst.out,hcb.out]),trivial⟩
   case measure=>simp [intOf];omega
  ·obtain rfl:k=D.length:=by omega
   have hff:Hid (crcAdd c D=d):=hid (by rw[hf.out,List.drop_length];rfl)
   go_wp2
   go_ret
   exact⟨by rw[hff.out];rfl,hbW⟩
theorem crc_sum(D:List UInt8)(ad:Option Addr)(nd cd:Nat)(w:World)(hD:rBytes.r (·<w.heap.size) w [.slice ad nd cd] D):
  Calls Tryz.prog 112 #[.slice ad nd cd] w fun r w'=>r=.returned (.int .u32 (crcSum D:Nat))∧Below w.heap.size w w':=by
 have HA:=hid (crc_add 4294967295 (by decide) D ad nd cd w hD)
 have hlt:=crcAdd_lt D (c:=4294967295) (by decide)
 have hff:Hid (crcSum D=4294967295-crcAdd 4294967295 D):=hid rfl
 generalize crcAdd 4294967295 D=s at*
 clear hD
 go_enter Tryz.func112,Tryz.ntmps112
 go_wp2_with fail
 refine (crc_begin w).mono ?_
 rintro r w1 ⟨rfl,rfl⟩
 go_wp2_with fail
 refine HA.out.mono ?_
 rintro r w2 ⟨rfl,hb2⟩
 go_wp2_with fail
 refine (crc_end s hlt w2).mono ?_
 rintro r w3 ⟨rfl,rfl⟩
 go_wp2
 go_ret
 exact⟨by rw[hff.out];rfl,hb2⟩
end Go.Proofs.YtmioakocnebceaaGreat
namespace Go.Bs
open Go.RowKit
def fixedB:Nat→Nat→List UInt8
 | 0,_=>[]
 | n+1,x=>UInt8.ofNat (x%256)::fixedB n (x/256)
theorem fixedB_len:∀(n x:Nat),(fixedB n x).length=n
 | 0,_=>rfl
 | n+1,x=>by simp[fixedB,fixedB_len n]
theorem fixedB_snoc:∀(n x:Nat),fixedB (n+1) x=fixedB n x++[UInt8.ofNat (x/256^n%256)]
 | 0,x=>by simp[fixedB]
 | n+1,x=>by
  rw[fixedB,fixedB_snoc n (x/256),fixedB,List.cons_append,Nat.div_div_eq_div_mul,Nat.pow_succ,Nat.mul_comm 256]
end Go.Bs
namespace Go.Proofs.YtmioakocnebceaaGreat
open Go.RowKit Go.Bs Go.Maps
theorem pen_fixed(x:Nat)(hx:x<18446744073709551616)(n:Nat)(hn:n≤8)(w:World):
  Calls Tryz.prog 111 #[.int .u64 x,.int .i64 n] w fun r w'=>∃v,r=.returned v∧w'.ownsRow w.heap.size 5 1 v n (byteCells (fixedB n x))∧Below w.heap.size w w':=by
 obtain⟨i0,hi,hz0,hz1,hz2⟩:=info_parts info8
 have d1:max (n:Int) 0=n:=by omega
 have d2:min (n:Int) 8=n:=by omega
 have d3:(if (n:Int)<0 then (0:Int) else n)=n:=by rw[if_neg (by omega)]
 have d4:(if (8:Int)<n then (8:Int) else n)=n:=by rw[if_neg (by omega)]
 go_enter Tryz.func111,Tryz.ntmps111
 go_wp2_with fail
 go_loopw [0,5,9] (fun y o i wr=>∃k:Nat,k≤n∧i=.int .i64 k∧y=.int .u64 (x/256^k:Nat)∧wr.ownsRow w.heap.size 5 1 o k (byteCells (fixedB k x))∧Below w.heap.size w wr) (fun _ _ i _=>n-(intOf i).toNat)
 case atStart=>exact ⟨0,Nat.zero_le _,rfl,by simp,⟨rfl,.inl ⟨rfl,rfl⟩⟩,Below.refl _ _⟩
 case round=>
  obtain⟨k,hk,rfl,rfl,hown,hb⟩:=hrel
  have hbs:=hb.size
  obtain⟨aJ,cJ,rfl⟩:=own_form hown
  have HO:=hid hown
  clear hown
  by_cases hlt:k<n
  ·have i1:(k:Int)<(n:Int):=by omega
   have hy:x/256^k<18446744073709551616:=Nat.lt_of_le_of_lt (Nat.div_le_self _ _) hx
   have hfin:=hid (fixedB_snoc k x)
   have hdv:Hid (x/256^(k+1)=x/256^k/256):=hid (by rw[Nat.pow_succ,Nat.div_div_eq_div_mul])
   generalize x/256^k=y at*
   have hby:Hid ((y:Int)%256=((UInt8.ofNat (y%256)).toNat:Int)):=hid (by rw[←byte_small (by omega)];omega)
   have e0:(y:Int)%256%256=(y:Int)%256:=by omega
   go_wp2_with (at_builtin;go_loud (refine wpList_append_src rfl _ _ _ rfl w.heap.size 5 i0 (.int .u8 0) 1 1 Tryz.underlying22 hi hz0 hz1 hz2 rfl (by decide) (.slice aJ k cJ) k (byteCells (fixedB k x)) rfl (own_below HO.out (by (repeat (first | with_reducible exact Below.refl _ _ | with_reducible assumption | (with_reducible refine below_alloc ?_ _) | (with_reducible refine Below.setCell ?_ (by first | omega | (simp;done) | (simp;omega)) _) | (with_reducible refine Below.drew ?_) | (with_reducible refine below_drewN ?_ _) | (refine below_then (by with_reducible assumption) ?_))))) (some ⟨wr.heap.size,0,none⟩) 1 1 [.int .u8 ((y:Int)%256)] rfl (src_new1 wr 5 _ rfl rfl rfl) (by intro u hu;simp at hu;subst hu;rfl) (by simp only[maxLen];omega) (by omega) (by simp;omega) ?_;intro v' w1 hown1 hgrow1 hat1;have HG:=hid hgrow1;have HO1:=hid hown1;clear hgrow1 hown1 hat1))
   have ho:=HO1.out
   rw[hby.out,byteCells_snoc,←hfin.out] at ho
   have hB:Below w.heap.size w w1:=Below.grown (by (repeat (first | with_reducible exact Below.refl _ _ | with_reducible assumption | (with_reducible refine below_alloc ?_ _) | (with_reducible refine Below.setCell ?_ (by first | omega | (simp;done) | (simp;omega)) _) | (with_reducible refine Below.drew ?_) | (with_reducible refine below_drewN ?_ _) | (refine below_then (by with_reducible assumption) ?_)))) HG.out (by simp;omega) (fun g e=>(HO.out.lt g e).1)
   have HO2:=hid ho
   clear ho
   go_wp2_with fail
   go_roundw
   case rel=>exact ⟨k+1,by omega,by go_num,by rw[hdv.out];go_num,HO2.out,hB⟩
   case measure=>simp [intOf];omega
  ·obtain rfl:k=n:=by omega
   go_wp2
   go_ret
   exact⟨_,rfl,HO.out,hb⟩
theorem pen_wfixed(w:World){g base most:Nat}{J:List UInt8}{a:Option Addr}{c:Nat}(h:PenAt w g base most J a c)(x:Nat)(hx:x<18446744073709551616)(n:Nat)(hn:n≤8)(hfit:J.length+n≤most)(hlen:J.length+n≤100000000000000):
  Calls Tryz.prog 315 #[.pointer (some ⟨g,0,none⟩),.int .u64 x,.int .i64 n] w fun r w'=>r=.returned (.tuple #[])∧PenStep w g base most (J++fixedB n x) a w':=by
 have hl:=fixedB_len n x
 have HF:=hid (pen_fixed x hx n hn w)
 have HP:=hid h
 clear h
 generalize fixedB n x=D at*
 go_enter Tryz.func315,Tryz.ntmps315
 go_wp2_with fail
 refine HF.out.mono ?_
 rintro r w1 ⟨v,rfl,ho,hb1⟩
 obtain⟨a1,c1,rfl⟩:=own_form ho
 have HQ:=hid (pen_put w1 (HP.out.later hb1) D a1 n c1 (own_bytes hl.symm ho) (by omega) (by omega))
 clear ho
 go_wp2_with fail
 refine HQ.out.mono ?_
 rintro r w2 ⟨rfl,hst⟩
 have HST:=hid (PenStep.later hb1 hst)
 clear hst
 go_wp2
 first | go_end0 | refine bodyPost_ret (results_none rfl _ _ _) rfl ?_
 exact⟨rfl,HST.out⟩
theorem toNat_cast{x:Int}(h:0≤x):((x.toNat:Nat):Int)=x:=Int.toNat_of_nonneg h
def numsB(l:List Int):List UInt8:=(l.map fun x=>varB x.toNat).flatten
def deltaB(pos:Int)(l:List Int):List UInt8:=varB l.length++numsB (stepsL pos l)
def upsL:Option Int→List Link→List Int
 | _,[]=>[]
 | p,x::l=>(match p with | none=>x.stream | some q=>x.stream-q-1)::upsL (some x.stream) l
def lnkF(pos:Int):Option Int→List Link→List UInt8
 | _,[]=>[]
 | p,x::l=>varB (match p with | none=>x.stream | some q=>x.stream-q-1).toNat++deltaB pos x.backs++lnkF pos (some x.stream) l
def linksB(pos:Int)(l:List Link):List UInt8:=varB l.length++lnkF pos none l
def headB(pos:Int)(e:Entry):List UInt8:=linksB pos e.links++varB e.data.length
def headsB:Int→List Entry→List UInt8
 | _,[]=>[]
 | p,e::l=>headB p e++headsB (p+1) l
def aheadB(b:Batch):List UInt8:=varB b.epoch.toNat++varB b.base.toNat++varB b.entries.length++headsB b.base b.entries
def batchB(b:Batch):List UInt8:=aheadB b++blockB (joined b.entries)
def linkN(x:Link):Prop:=(0≤x.stream∧x.stream≤18446744073709551615)∧∀y∈x.backs,0≤y
def entryN(e:Entry):Prop:=∀x∈e.links,linkN x
def batchN(b:Batch):Prop:=(0≤b.epoch∧b.epoch≤18446744073709551615)∧(0≤b.base∧b.base≤18446744073709551615)∧∀e∈b.entries,entryN e
theorem numsB_nil:numsB []=[]:=rfl
theorem numsB_cons(x:Int)(l:List Int):numsB (x::l)=varB x.toNat++numsB l:=by simp[numsB]
theorem numsB_app(l l':List Int):numsB (l++l')=numsB l++numsB l':=by simp[numsB]
theorem numsB_step(l:List Int)(k:Nat)(h:k<l.length):numsB (l.take (k+1))=numsB (l.take k)++varB l[k].toNat:=by
 rw[List.take_succ_eq_append_getElem h,numsB_app,numsB_cons,numsB_nil,List.append_nil]
theorem numsB_len(l:List Int):(numsB l).length≤10*l.length:=by
 induction l with
 | nil=>simp [numsB]
 | cons x l ih=>
  rw[numsB_cons,List.length_append,List.length_cons]
  have:=(varB_len x.toNat).1
  omega
theorem numsB_take_le(l:List Int)(k:Nat):(numsB (l.take k)).length≤(numsB l).length:=by
 have:numsB l=numsB (l.take k)++numsB (l.drop k):=by rw[←numsB_app,List.take_append_drop]
 rw[this,List.length_append];omega
theorem stepsL_len:∀(p:Int) (l:List Int),(stepsL p l).length=l.length
 | _,[]=>rfl
 | p,x::l=>by simp only[stepsL,List.length_cons,stepsL_len x l]
theorem upsL_len:∀(p:Option Int) (l:List Link),(upsL p l).length=l.length
 | _,[]=>rfl
 | p,x::l=>by simp only[upsL,List.length_cons,upsL_len _ l]
theorem varB_len_small{x:Nat}(h:x<128):(varB x).length=1:=by rw[varB_small h];rfl
theorem deltaB_len(pos:Int)(l:List Int)(h:l.length<128):(deltaB pos l).length≤1+10*l.length:=by
 have:=numsB_len (stepsL pos l)
 rw[stepsL_len] at this
 unfold deltaB
 rw[List.length_append,varB_len_small h]
 omega
theorem pen_data{α:Type}{A:Rp α}{w w1:World}{g:Nat}{a a1:Option Addr}{cs:List Value}{x:α}(ht:Tch (PenF g a) w w1)(ha:a1.map Addr.block=a.map Addr.block∨∃q,a1.map Addr.block=some q∧w.heap.size≤q)
  (h:A.r (fun q=>q<w.heap.size∧¬PenF g a q) w cs x):A.r (fun q=>q<w1.heap.size∧¬PenF g a1 q) w1 cs x:=
 A.mono (A.keep h fun q hq=>ht.block q hq.1 hq.2) fun q hq=>⟨Nat.lt_of_lt_of_le hq.1 ht.size,penF_old ha hq.1 hq.2⟩
theorem pen_later{α:Type}{A:Rp α}{w w1:World}{g:Nat}{a:Option Addr}{cs:List Value}{x:α}(hb:Below w.heap.size w w1)
  (h:A.r (fun q=>q<w.heap.size∧¬PenF g a q) w cs x):A.r (fun q=>q<w1.heap.size∧¬PenF g a q) w1 cs x:=
 A.mono (A.keep h fun q hq=>hb.block q hq.1) fun q hq=>⟨Nat.lt_of_lt_of_le hq.1 hb.size,hq.2⟩
theorem pen_low{α:Type}{A:Rp α}{w:World}{g:Nat}{a:Option Addr}{cs:List Value}{x:α}(h:A.r (fun q=>q<w.heap.size∧¬PenF g a q) w cs x):A.r (·<w.heap.size) w cs x:=A.mono h fun q hq=>hq.1
theorem pen_new_data{α:Type}{A:Rp α}{w w1:World}{g base most:Nat}{J:List UInt8}{a:Option Addr}{c:Nat}{cs:List Value}{x:α}(hp:PenAt w g base most J a c)(h:A.r (fun q=>w.heap.size≤q∧q<w1.heap.size) w1 cs x):A.r (fun q=>q<w1.heap.size∧¬PenF g a q) w1 cs x:=
 A.mono h fun q hq=>⟨hq.2,fun hf=>by have:=(hp.own_lt hf).2;omega⟩
open Go.RowKit Go.Bs
theorem prevB_take(l:List Batch){k:Nat}(h:k≤l.length):prevB (l.take k) (l.take k).length=prevB l k:=by
 have:(l.take k).length=k:=by simp;omega
 rw[this]
 unfold prevB
 by_cases h0:k=0
 ·rw[if_pos h0,if_pos h0]
 ·rw[if_neg h0,if_neg h0,List.getElem?_take];rw[if_pos (by omega)]
theorem batchR_fits{x:Batch}(h:batchR x=true):x.base+x.entries.length≤4611686018427387904:=by
 unfold batchR fitsR at h
 simp at h
 omega
theorem right_take{l:List Batch}{k:Nat}(h:∀i,(h:i<l.length)→i<k→batchR l[i]=true):∀p∈l.take k,p.base+p.entries.length≤18446744073709551615:=by
 intro p hp
 obtain⟨i,hi,rfl⟩:=List.getElem_of_mem hp
 have hi':i<k∧i<l.length:=by simp at hi;omega
 rw[List.getElem_take]
 have:=batchR_fits (h i hi'.2 hi'.1)
 omega
theorem right_more{l:List Batch}{k:Nat}(hk:k<l.length){z:Batch}(hz:l[k]=z)(hr:batchR z=true)(h:∀i,(h:i<l.length)→i<k→batchR l[i]=true):∀i,(h:i<l.length)→i<k+1→batchR l[i]=true:=by
 intro i hi hik
 by_cases e:i=k
 ·subst e;rw[hz];exact hr
 ·exact h i hi (by omega)
theorem segment_right(e:Int)(l:List Batch)(a:Option Addr)(n c:Nat)(w:World)(h0:0≤e∧e≤18446744073709551615)(hl:rBatches.r (·<w.heap.size) w [.slice a n c] l)(hfair:∀x∈l,Fair x.entries):
  Calls Tryz.prog 127 #[.agg #[.int .u64 e,.slice a n c]] w fun r w'=>r=.returned (.bool (segR ⟨e,l⟩))∧Below w.heap.size w w':=by
 obtain⟨rfl,hm,hm2,hm3⟩:=sl_len hl
 have HL:=hid hl;clear hl
 have HF:=hid hfair;clear hfair
 go_enter Tryz.func127,Tryz.ntmps127
 go_wp2_with fail
 refine (epoch_right e _).mono ?_
 rintro e' w' ⟨rfl,rfl⟩
 cases he:epR e
 ·have hff:Hid (segR ⟨e,l⟩=false):=hid (by simp[segR,he])
  clear he
  go_wp2
  go_ret
  exact⟨by rw[hff.out];rfl,by (repeat (first | exact Below.refl _ _ | assumption | (refine below_alloc ?_ _) | (refine Below.setCell ?_ (by first | omega | (simp;done) | (simp;omega)) _) | (refine Below.drew ?_) | (refine below_drewN ?_ _) | (refine below_then (by assumption) ?_)))⟩
 ·by_cases hn:l.length≤16
  ·have d1:decide ((16:Int)<(l.length:Int))=false:=by simp;omega
   have hff:Hid (segR ⟨e,l⟩=chainR e (prevB l 0) (l.drop 0)):=hid (by simp[segR,he,hn,prevB])
   clear he
   go_wp2_with fail
   refine wp_world (fun W=>Below w.heap.size w W∧w.heap.size<W.heap.size∧W.cell? ⟨w.heap.size,0,none⟩=some (.int .u64 e)∧W.cell? ⟨w.heap.size,1,none⟩=some (.slice a l.length c)) ⟨by (repeat (first | exact Below.refl _ _ | assumption | (refine below_alloc ?_ _) | (refine Below.setCell ?_ (by first | omega | (simp;done) | (simp;omega)) _) | (refine Below.drew ?_) | (refine below_drewN ?_ _) | (refine below_then (by assumption) ?_))),by simp,by go_simp,by go_simp⟩ ?_
   intro w1 ⟨hb2,hzb,s0,s1⟩
   go_loopw [18] (fun i wr=>∃k:Nat,k≤l.length∧i=.int .i64 k∧Hid (segR ⟨e,l⟩=chainR e (prevB l k) (l.drop k))∧Hid (∀i,(h:i<l.length)→i<k→batchR l[i]=true)∧Below w1.heap.size w1 wr) (fun i _=>l.length-(intOf i).toNat)
   case atStart=>exact ⟨0,Nat.zero_le _,rfl,hff,hid (fun i _ h=>absurd h (Nat.not_lt_zero i)),Below.refl _ _⟩
   case round=>
    obtain⟨k,hk,rfl,hf,hP,hb⟩:=hrel
    have hb3:=below_then hb hb2
    have t0:wr.cell? ⟨w.heap.size,0,none⟩=some (.int .u64 e):=(Later.mk wr hb).cell s0
    have t1:wr.cell? ⟨w.heap.size,1,none⟩=some (.slice a l.length c):=(Later.mk wr hb).cell s1
    have hz3:w.heap.size<wr.heap.size:=by have:=hb.size;omega
    by_cases hlt:k<l.length
    ·obtain⟨b,o,hA,hbb,a1,c1,hd0,hd1,hd2,r0,r1,hd⟩:=batch_at HL.out hlt
     subst hA
     have X0:=(hb3.cell (p:=⟨b,o+k*3,none⟩) hbb).trans hd0
     have X1:=(hb3.cell (p:=⟨b,o+k*3+1,none⟩) hbb).trans hd1
     have X2:=(hb3.cell (p:=⟨b,o+k*3+2,none⟩) hbb).trans hd2
     clear hd0 hd1 hd2
     have RL:=hid (sl_take (lift HL.out hb3) hk)
     have hst:=hid (chainR_step e l k hlt)
     have HZ:=hid (HF.out _ (List.getElem_mem hlt))
     obtain⟨_,hm4,_,_⟩:=sl_len hd
     have R:=hid (lift hd hb3)
     clear hd
     generalize hz:l[k]=z at*
     have HZZ:=hid hz;clear hz
     have i1:(k:Int)<(l.length:Int):=by omega
     have i2:(k:Int)≤(c:Int):=by omega
     go_wp2_with fail
     refine wp_world (fun W=>Below wr.heap.size wr W∧wr.heap.size<W.heap.size∧W.cell? ⟨wr.heap.size,0,none⟩=some (.int .u64 z.epoch)∧W.cell? ⟨wr.heap.size,1,none⟩=some (.int .u64 z.base)∧W.cell? ⟨wr.heap.size,2,none⟩=some (.slice a1 z.entries.length c1)) ⟨by (repeat (first | exact Below.refl _ _ | assumption | (refine below_alloc ?_ _) | (refine Below.setCell ?_ (by first | omega | (simp;done) | (simp;omega)) _) | (refine Below.drew ?_) | (refine below_drewN ?_ _) | (refine below_then (by assumption) ?_))),by simp,by go_simp,by go_simp,by go_simp⟩ ?_
     intro W ⟨hbW,hzW,d0,d1,d2⟩
     have hb6:=below_then hbW hb3
     have hb7:=below_then hbW hb
     have T0:=fun s:Later W=>s.cell ((hbW.cell (p:=⟨w.heap.size,0,none⟩) hz3).trans t0)
     have T1:=fun s:Later W=>s.cell ((hbW.cell (p:=⟨w.heap.size,1,none⟩) hz3).trans t1)
     have Y0:=fun s:Later W=>s.cell d0
     have Y1:=fun s:Later W=>s.cell d1
     have Y2:=fun s:Later W=>s.cell d2
     have hB:=fun s:Later W=>batch_right z a1 _ c1 s.at_ r0 r1 (lift R.out (below_then s.below hbW)) HZ.out
     cases hr:batchR z
     ·have hf3:Hid (segR ⟨e,l⟩=false):=hid (by rw[hf.out,hst.out,hr];rfl)
      rw[hr] at hB
      have HB:=hid hB;clear hB hr
      refine wp_region_later (by kernel_rfl) (by kernel_rfl) ?_
      repeat (go_big_quiet_step (((go_at_call 134;exact later_of (HB.out _)))))
      refine wpQuiet_nil ?_
      rintro W5 ⟨⟨W5',hb5⟩,rfl⟩
      go_wp2
      go_ret
      exact⟨by rw[hf3.out];rfl,below_then hb5 hb6⟩
     ·have HR:=hid hr
      rw[hr] at hB
      have HB:=hid hB;clear hB
      have hS:=fun s:Later W=>seg_follows e (l.take k) z (some ⟨b,o,none⟩) a1 k c z.entries.length c1 s.at_ (lift RL.out (below_then s.below hbW)) (right_take hP.out)
      rw[prevB_take l hk] at hS
      cases hv:mayR e (prevB l k) z
      ·have hf3:Hid (segR ⟨e,l⟩=false):=hid (by rw[hf.out,hst.out,hr,hv];rfl)
       rw[hv] at hS
       have HS:=hid hS;clear hS hr hv
       refine wp_region_later (by kernel_rfl) (by kernel_rfl) ?_
       repeat (go_big_quiet_step (((first | (go_at_call 134;exact later_of (HB.out _)) | (go_at_call 241;exact later_of (HS.out _))))))
       refine wpQuiet_nil ?_
       rintro W5 ⟨⟨W5',hb5⟩,rfl⟩
       go_wp2
       go_ret
       exact⟨by rw[hf3.out];rfl,below_then hb5 hb6⟩
      ·have hf3:Hid (segR ⟨e,l⟩=chainR e (prevB l (k+1)) (l.drop (k+1))):=hid (by rw[hf.out,hst.out,hr,hv];rfl)
       rw[hv] at hS
       have HS:=hid hS;clear hS hr hv
       refine wp_region_later (by kernel_rfl) (by kernel_rfl) ?_
       repeat (go_big_quiet_step (((first | (go_at_call 134;exact later_of (HB.out _)) | (go_at_call 241;exact later_of (HS.out _))))))
       refine wpQuiet_nil ?_
       rintro W5 ⟨⟨W5',hb5⟩,rfl⟩
       go_wp2
       go_roundw
       case rel=>exact ⟨k+1,by omega,by go_num,hf3,hid (right_more hlt HZZ.out HR.out hP.out),below_then hb5 hb7⟩
       case measure=>simp [intOf];omega
    ·obtain rfl:k=l.length:=by omega
     have hf3:Hid (segR ⟨e,l⟩=true):=hid (by rw[hf.out,List.drop_length];rfl)
     go_wp2
     go_ret
     exact⟨by rw[hf3.out];rfl,hb3⟩
  ·have d1:decide ((16:Int)<(l.length:Int))=true:=by simp;omega
   have hff:Hid (segR ⟨e,l⟩=false):=hid (by simp[segR,hn])
   go_wp2
   go_ret
   exact⟨by rw[hff.out];rfl,by (repeat (first | exact Below.refl _ _ | assumption | (refine below_alloc ?_ _) | (refine Below.setCell ?_ (by first | omega | (simp;done) | (simp;omega)) _) | (refine Below.drew ?_) | (refine below_drewN ?_ _) | (refine below_then (by assumption) ?_)))⟩
theorem info64:(Tryz.prog.info? 25).map (fun i=>(i.zero,i.size,i.bytes))=some (some (.int .u64 0),1,8):=by kernel_rfl
def Fresh(w w':World)(b:Nat):Prop:=w.heap.size≤b∧b<w'.heap.size
theorem u64s_bounds{S:Nat→Prop}{w:World}{a:Option Addr}{n c:Nat}{l:List Int}(h:rU64s.r S w [.slice a n c] l):∀x∈l,0≤x∧x≤18446744073709551615:=by
 intro x hx
 obtain⟨i,hi,rfl⟩:=List.getElem_of_mem hx
 obtain⟨b,o,_,_,_,h2⟩:=u64_at h hi
 exact h2
theorem link_copied(x:Link)(a:Option Addr)(n c:Nat)(w:World)(hl:rU64s.r (·<w.heap.size) w [.slice a n c] x.backs)(hlen:x.backs.length≤1000000000000):
  Calls Tryz.prog 260 #[.agg #[.int .u64 x.stream,.slice a n c]] w fun r w'=>∃v,r=.returned (.agg #[.int .u64 x.stream,v])∧rU64s.r (Fresh w w') w' [v] x.backs∧Below w.heap.size w w':=by
 obtain⟨rfl,hm,_,_⟩:=sl_len hl
 obtain⟨i0,hi,hz0,hz1,hz2⟩:=info_parts info64
 have hw:=hid (u64s_bounds hl)
 have HL:=hid hl;clear hl
 have hone:=u64Cells_one x.backs
 have HONE:=hid hone;clear hone
 go_enter Tryz.func260,Tryz.ntmps260
 have hfree:∀(W:World),W.heap.size=w.heap.size+1+1→(W.alloc (.cells #[] 25)).ownsRow (w.heap.size+1+1) 25 1 (.slice (some ⟨w.heap.size+1+1,0,none⟩) 0 0) 0 []:=fun W h=>own_empty W (by omega) h.symm
 have HF:=hid hfree;clear hfree
 have hbel:∀W:World,Below w.heap.size w W→Src W a x.backs.length 1 (u64Cells x.backs):=fun W h=>src_u64s (lift HL.out h)
 have HB:=hid hbel;clear hbel
 go_wp2_with (at_builtin;go_loud (refine wpList_append_src rfl _ _ _ rfl (w.heap.size+1+1) 25 i0 (.int .u64 0) 1 8 Tryz.underlying49 hi hz0 hz1 hz2 rfl (by decide) (.slice (some ⟨w.heap.size+1+1,0,none⟩) 0 0) 0 [] rfl (HF.out _ (by simp)) a x.backs.length c (u64Cells x.backs) rfl (HB.out _ (by (repeat (first | exact Below.refl _ _ | assumption | (refine below_alloc ?_ _) | (refine Below.setCell ?_ (by first | omega | (simp;done) | (simp;omega)) _) | (refine Below.drew ?_) | (refine below_drewN ?_ _) | (refine below_then (by assumption) ?_))))) HONE.out (by simp only[maxLen];omega) (by omega) (by first | (simp;done) | (simp;omega)) ?_;intro v1 w1 hown1 hgrow1 hat1;rw[Nat.zero_add,List.nil_append] at hown1;obtain⟨av,cv,hv1⟩:=own_form hown1;subst hv1;have HG:=hid hgrow1;have HO:=hid hown1;have HA:=hid hat1;clear hown1 hgrow1 hat1;have q0:Blk w1 w.heap.size 184 #[.int .u64 x.stream,.slice a x.backs.length c]:=(((Blk.new w _ _).alloc _).alloc _).grown HG.out (by simp only[Value.ownBlock,ne_eq,Option.some.injEq];omega);have q1:Blk w1 (w.heap.size+1) 184 #[.int .u64 0,.slice none 0 0]:=((Blk.new1 w _ _ _).alloc _).grown HG.out (by simp only[Value.ownBlock,ne_eq,Option.some.injEq];omega);have c00:w1.cell? ⟨w.heap.size,0,none⟩=some (.int .u64 x.stream):=q0.cell 0;have c01:w1.cell? ⟨w.heap.size,1,none⟩=some (.slice a x.backs.length c):=q0.cell 1;have c10:w1.cell? ⟨w.heap.size+1,0,none⟩=some (.int .u64 0):=q1.cell 0;have c11:w1.cell? ⟨w.heap.size+1,1,none⟩=some (.slice none 0 0):=q1.cell 1;have f00:=q0.free 0;have f01:=q0.free 1;have f10:=q1.free 0;have f11:=q1.free 1;have Q0:=hid q0;have Q1:=hid q1;clear q0 q1))
 have hb1:Below w.heap.size w w1:=Below.grown (by (repeat (first | exact Below.refl _ _ | assumption | (refine below_alloc ?_ _) | (refine Below.setCell ?_ (by first | omega | (simp;done) | (simp;omega)) _) | (refine Below.drew ?_) | (refine below_drewN ?_ _) | (refine below_then (by assumption) ?_)))) HG.out (by first | (simp;done) | (simp;omega)) (fun g e=>by simp only[Value.ownBlock,Option.some.injEq] at e;omega)
 have hr1:=own_ints64 hw.out rfl HO.out
 have hz1:w.heap.size+1+1<w1.heap.size:=by have:=HG.out.size;simp at this;omega
 clear HG HO HA
 refine bodyPost_ret (v:=.agg #[.int .u64 x.stream,.slice av x.backs.length cv]) (by simp[results,Tryz.results260,go_sem,c00,c01,c10,c11]) rfl ⟨.slice av x.backs.length cv,rfl,?_,by (repeat (first | exact Below.refl _ _ | assumption | (refine below_alloc ?_ _) | (refine Below.setCell ?_ (by first | omega | (simp;done) | (simp;omega)) _) | (refine Below.drew ?_) | (refine below_drewN ?_ _) | (refine below_then (by assumption) ?_)))⟩
 refine rU64s.mono (rU64s.keep hr1 fun b hb=> ?_) fun b hb=>⟨by omega,by simp;omega⟩
 repeat rw[Below.heap_setCell _ _ _ _ (by dsimp only;omega)]
theorem infoLink:(Tryz.prog.info? 184).map (fun i=>(i.zero,i.size,i.bytes))=some (some (.agg #[.int .u64 0,.slice none 0 0]),2,32):=by kernel_rfl
theorem src_new1{w:World}(W:World)(e:TypeId)(cs:List Value)(hB:w=W.alloc (.cells cs.toArray e)){g:Nat}(hg:g=W.heap.size){sz:Nat}(hs:cs.length=sz):Src w (some ⟨g,0,none⟩) 1 sz cs:=by
 subst hB hg
 refine⟨by omega,.inr ⟨_,0,rfl,fun j u hu=> ?_⟩⟩
 rw[Nat.zero_add,Blk.cell (Blk.new W e cs.toArray)]
 simpa using hu
theorem link_copyW(l:List Link)(a:Option Addr)(n c:Nat)(w:World)(hl:rLinks.r (·<w.heap.size) w [.slice a n c] l)(hlen:l.length≤1000000000000)(hb:∀x∈l,x.backs.length≤1000000000000):
  Calls Tryz.prog 138 #[.slice a n c] w fun r w'=>∃v,r=.returned v∧rLinksW.r (Fresh w w') w' [v] l∧Below w.heap.size w w':=by
 obtain⟨rfl,hm,_,_⟩:=sl_len hl
 obtain⟨i0,hi,hz0,hz1,hz2⟩:=info_parts infoLink
 have HL:=hid hl;clear hl
 have HB:=hid hb;clear hb
 go_enter Tryz.func138,Tryz.ntmps138
 go_wp2
 go_loopw [3,8] (fun v i wr=>∃k:Nat,k≤l.length∧i=.int .i64 k∧OwnEls w.heap.size rLink w.heap.size 184 2 wr v (l.take k)∧Below w.heap.size w wr) (fun _ i _=>l.length-(intOf i).toNat)
 case atStart=>exact ⟨0,Nat.zero_le _,rfl,OwnEls.nil,Below.refl _ _⟩
 case round=>
  obtain⟨k,hk,rfl,hown,hb⟩:=hrel
  by_cases hlt:k<l.length
  ·obtain⟨b,o,hA,hbb,a1,c1,hc0,hc1,hst,hd⟩:=link_at HL.out hlt
   subst hA
   have X0:=(hb.cell (p:=⟨b,o+k*2,none⟩) hbb).trans hc0
   have X1:=(hb.cell (p:=⟨b,o+k*2+1,none⟩) hbb).trans hc1
   clear hc0 hc1
   have htk:=hid (List.take_succ_eq_append_getElem hlt)
   have hbk:=HB.out _ (List.getElem_mem hlt)
   have R:=hid (lift hd hb)
   clear hd
   generalize l[k]=z at*
   have htl:(l.take k).length=k:=by simp;omega
   generalize hT:l.take k=T at*
   clear hT
   subst htl
   have OW:=hid hown;clear hown
   have i1:(T.length:Int)<(l.length:Int):=by omega
   go_wp2_with fail
   refine (link_copied z _ _ _ _ (lift R.out (by (repeat (first | exact Below.refl _ _ | assumption | (refine below_alloc ?_ _) | (refine Below.setCell ?_ (by first | omega | (simp;done) | (simp;omega)) _) | (refine Below.drew ?_) | (refine below_drewN ?_ _) | (refine below_then (by assumption) ?_))))) hbk).mono ?_
   rintro e w4 ⟨v4,rfl,hr4,hb4⟩
   obtain⟨a4,c4,hv4,_,_⟩:=sl_form hr4
   simp only[List.cons.injEq,and_true] at hv4
   subst hv4
   have hbw4:Below wr.heap.size wr w4:=by (repeat (first | exact Below.refl _ _ | assumption | (refine below_alloc ?_ _) | (refine Below.setCell ?_ (by first | omega | (simp;done) | (simp;omega)) _) | (refine Below.drew ?_) | (refine below_drewN ?_ _) | (refine below_then (by assumption) ?_)))
   have hz4:wr.heap.size+1≤w4.heap.size:=by have:=hb4.size;simpa using this
   have O4:=OW.out.below hbw4
   have HR4:=hid (rU64s.mono hr4 (S':=fun b=>wr.heap.size+1≤b∧b<w4.heap.size) fun b h=>by simpa [Fresh] using h)
   clear hr4
   obtain⟨cells0,OA0⟩:=OW.out
   have hlt0:∀g,u3.ownBlock=some g→g<wr.heap.size:=fun g e=>(OA0.1.lt g e).2
   have O5:=O4.below (show Below w4.heap.size w4 (w4.alloc (.cells #[.int .u64 z.stream,.slice a4 z.backs.length c4] 184)) from by (repeat (first | exact Below.refl _ _ | assumption | (refine below_alloc ?_ _) | (refine Below.setCell ?_ (by first | omega | (simp;done) | (simp;omega)) _) | (refine Below.drew ?_) | (refine below_drewN ?_ _) | (refine below_then (by assumption) ?_))))
   obtain⟨cells,OA⟩:=O5
   have hx:rLink.r (fun b=>w.heap.size≤b∧b<(w4.alloc (.cells #[.int .u64 z.stream,.slice a4 z.backs.length c4] 184)).heap.size∧u3.ownBlock≠some b) (w4.alloc (.cells #[.int .u64 z.stream,.slice a4 z.backs.length c4] 184)) [.int .u64 z.stream,.slice a4 z.backs.length c4] z:=by
    refine link_mk hst (rU64s.mono (rU64s.keep HR4.out fun b hb=>Below.heap_alloc w4 _ b hb.2) fun b hb'=>⟨?_,?_,fun e=> ?_⟩)
    ·have:=hb.size;omega
    ·simp;omega
    ·have:=hlt0 b e;omega
   have hbs:=hb.size
   have hb9:Below w.heap.size w (w4.alloc (.cells #[.int .u64 z.stream,.slice a4 z.backs.length c4] 184)):=below_alloc (below_then hbw4 hb) _
   have hs9:w.heap.size≤(w4.alloc (.cells #[.int .u64 z.stream,.slice a4 z.backs.length c4] 184)).heap.size:=hb9.size
   have HX:=hid hx;clear hx
   have HA:=hid OA;clear OA OA0 O4 hlt0
   have HB9:=hid hb9;clear hb9
   have HS9:=hid hs9;clear hs9
   go_wp2_with (at_builtin;go_loud (refine wpList_append_src rfl _ _ _ rfl w.heap.size 184 i0 (.agg #[.int .u64 0,.slice none 0 0]) 2 32 Tryz.underlying50 hi hz0 hz1 hz2 rfl (by decide) u3 T.length _ rfl HA.out.1 (some ⟨w4.heap.size,0,none⟩) 1 1 [.int .u64 z.stream,.slice a4 z.backs.length c4] rfl (src_new1 w4 184 _ rfl rfl rfl) (by intro u hu;simp at hu;rcases hu with rfl | rfl<;>rfl) (by simp only[maxLen];omega) (by omega) HS9.out ?_;intro v1 w5 hown1 hgrow1 hat1;have OP:=hid (OwnEls.push HA.out rfl HX.out hown1 hgrow1 hat1 hgrow1.size);have B5:=hid (HB9.out.grown hgrow1 HS9.out (fun g e=>(HA.out.1.lt g e).1));clear hown1 hgrow1 hat1))
   go_roundw
   case rel=>exact ⟨T.length+1,by omega,by go_num,by rw[htk.out];exact OP.out,B5.out⟩
   case measure=>simp [intOf];omega
  ·obtain rfl:k=l.length:=by omega
   rw[List.take_length] at hown
   have hv:=OwnEls.sliceW (Nat.le_refl _) hown
   have HV:=hid hv;clear hv
   go_wp2
   go_ret
   exact⟨_,rfl,HV.out,hb⟩
theorem entry_copyW(x:Entry)(a1 a2:Option Addr)(n1 c1 n2 c2:Nat)(w:World)(hl:rLinks.r (·<w.heap.size) w [.slice a1 n1 c1] x.links)(hd:rBytes.r (·<w.heap.size) w [.slice a2 n2 c2] x.data)
    (hlen:x.links.length≤1000000000000) (hdl:x.data.length≤1000000000000) (hb:∀z∈x.links,z.backs.length≤1000000000000):
    Calls Tryz.prog 238 #[.agg #[.slice a1 n1 c1,.slice a2 n2 c2]] w fun r w'=>∃v1 v2,r=.returned (.agg #[v1,v2])∧rLinksW.r (Fresh w w') w' [v1] x.links∧rBytes.r (Fresh w w') w' [v2] x.data∧Below w.heap.size w w':=by
  obtain⟨rfl,hm,_,_⟩:=sl_len hl
  obtain⟨rfl,hm',_,_⟩:=sl_len hd
  obtain⟨i0,hi,hz0,hz1,hz2⟩:=info_parts info8
  have HB:=hid hb;clear hb
  have hC:∀W:World,Below w.heap.size w W→Calls Tryz.prog 138 #[.slice a1 x.links.length c1] W fun r w'=>∃a c,r=.returned (.slice a x.links.length c)∧rLinksW.r (Fresh W w') w' [.slice a x.links.length c] x.links∧Below W.heap.size W w':=fun W hW=>
    (link_copyW x.links a1 _ c1 W (lift hl hW) hlen HB.out).mono fun r w' ⟨v,h1,h2,h3⟩=>by
      obtain⟨a,c,hv,_,_⟩:=sl_form (linksW_links h2)
      simp only[List.cons.injEq,and_true] at hv
      subst hv
      exact⟨a,c,h1,h2,h3⟩
  have HC:=hid hC;clear hC
  have hS:∀W:World,Below w.heap.size w W→Src W a2 x.data.length 1 (byteCells x.data):=fun W hW=>src_bytes (lift hd hW)
  have HS:=hid hS;clear hS hl hd
  have HONE:=hid (byteCells_one x.data)
  go_enter Tryz.func238,Tryz.ntmps238
  go_wp2_with fail
  refine wp_world (fun W=>Below w.heap.size w W∧W.heap.size=w.heap.size+2∧Blk W w.heap.size 84 #[.slice a1 x.links.length c1,.slice a2 x.data.length c2]∧Blk W (w.heap.size+1) 84 #[.slice none 0 0,.slice none 0 0]) ⟨by (repeat (first | exact Below.refl _ _ | assumption | (refine below_alloc ?_ _) | (refine Below.setCell ?_ (by first | omega | (simp;done) | (simp;omega)) _) | (refine Below.drew ?_) | (refine below_drewN ?_ _) | (refine below_then (by assumption) ?_))),by simp,(Blk.new w _ _).alloc _,Blk.new1 w _ _ _⟩ ?_
  intro W ⟨hbW,hzW,q0,q1⟩
  have c00:W.cell? ⟨w.heap.size,0,none⟩=some (.slice a1 x.links.length c1):=q0.cell 0
  have c01:W.cell? ⟨w.heap.size,1,none⟩=some (.slice a2 x.data.length c2):=q0.cell 1
  have Q0:=hid q0;have Q1:=hid q1
  clear q0 q1
  have HW:=hid hzW
  have LT0:w.heap.size<W.heap.size:=by omega
  have LT1:w.heap.size+1<W.heap.size:=by omega
  clear hzW
  go_region_law (first
    | (go_simp;go_at_call 138;refine (HC.out _ (by (repeat (first | exact Below.refl _ _ | assumption | (refine below_alloc ?_ _) | (refine Below.setCell ?_ (by first | omega | (simp;done) | (simp;omega)) _) | (refine Below.drew ?_) | (refine below_drewN ?_ _) | (refine below_then (by assumption) ?_))))).mono ?_;rintro e w4 ⟨a4,c4,rfl,hr4,hb4⟩;have k4:Below W.heap.size W w4:=(by (repeat (first | exact Below.refl _ _ | assumption | (refine below_alloc ?_ _) | (refine Below.setCell ?_ (by first | omega | (simp;done) | (simp;omega)) _) | (refine Below.drew ?_) | (refine below_drewN ?_ _) | (refine below_then (by assumption) ?_))));have d0:=(k4.cell (p:=⟨w.heap.size,0,none⟩) LT0).trans c00;have d1:=(k4.cell (p:=⟨w.heap.size,1,none⟩) LT0).trans c01;have lt4:w.heap.size<w4.heap.size:=Nat.lt_of_lt_of_le LT0 k4.size;have lt41:w.heap.size+1<w4.heap.size:=Nat.lt_of_lt_of_le LT1 k4.size;have x0:=(Q1.out.below k4 LT1).free 0;have x1:=(Q1.out.below k4 LT1).free 1;have x2:=(Q1.out.below k4 LT1).cell 0;have x3:=(Q1.out.below k4 LT1).cell 1;have HR4:=hid hr4;clear hr4)
    | (go_loud (refine step_append_src (by rfl) _ _ _ (by rfl) (w.heap.size+2) 5 i0 (.int .u8 0) 1 1 Tryz.underlying22 hi hz0 hz1 hz2 rfl (by decide) _ 0 [] (by rfl) (by first | exact own_empty _ (by first | exact LT1 | exact lt41 | (simp;omega)) (by rfl) | exact own_below (World.ownsRow.drew (own_empty _ (by first | exact LT1 | exact lt41 | (simp;omega)) (by rfl))) (by assumption)) a2 x.data.length c2 (byteCells x.data) (by rfl) (HS.out _ (by (repeat (first | exact Below.refl _ _ | assumption | (refine below_alloc ?_ _) | (refine Below.setCell ?_ (by first | omega | (simp;done) | (simp;omega)) _) | (refine Below.drew ?_) | (refine below_drewN ?_ _) | (refine below_then (by assumption) ?_))))) HONE.out (by simp only[maxLen];omega) (by omega) (by first | exact LT1 | exact lt41 | (simp;omega)) ?_;intro a5 c5 w5 hown5 hgrow5 hat5;rw[Nat.zero_add,List.nil_append] at hown5;have k5:Below W.heap.size W w5:=(Below.grown (by (repeat (first | exact Below.refl _ _ | assumption | (refine below_alloc ?_ _) | (refine Below.setCell ?_ (by first | omega | (simp;done) | (simp;omega)) _) | (refine Below.drew ?_) | (refine below_drewN ?_ _) | (refine below_then (by assumption) ?_)))) hgrow5 (by first | exact k4.size | exact Nat.le_succ_of_le k4.size | exact Nat.le_refl _ | exact Nat.le_succ _ | (have q4:=k4.size;simp;omega) | (simp;done)) (fun g e=>by first | (have e':some w4.heap.size=some g:=e;injection e' with e';subst e';exact k4.size) | (have e':some W.heap.size=some g:=e;injection e' with e';exact Nat.le_of_eq e')));have z0:=(k5.cell (p:=⟨w.heap.size,0,none⟩) LT0).trans c00;have y0:=(Q1.out.below k5 LT1).cell 0;have y1:=(Q1.out.below k5 LT1).cell 1;have y2:=(Q1.out.below k5 LT1).free 0;have y3:=(Q1.out.below k5 LT1).free 1;have lt5:w.heap.size<w5.heap.size:=Nat.lt_of_lt_of_le LT0 k5.size;have lt51:w.heap.size+1<w5.heap.size:=Nat.lt_of_lt_of_le LT1 k5.size;have HG5:=hid hgrow5;have HO5:=hid hown5;have HAT5:=hid hat5;clear hgrow5 hown5 hat5)))
  all_goals
    have hw2:=HW.out
    have hr5:=own_bytes2 rfl HO5.out
    have hr6:rLinksW.r (fun b=>w.heap.size+2≤b∧b<w5.heap.size) w5 [.slice a4 x.links.length c4] x.links:=by
      first
        | (refine rLinksW.mono (rLinksW.keep HR4.out fun b hb=> ?_) fun b hb=> ?_
           · obtain⟨p1,p2⟩:=hb
             exact HG5.out.block b p2 (fun e=>by have e':some b=some W.heap.size:=e;injection e' with e';simp at p1;omega)
           · obtain⟨p1,p2⟩:=hb
             have:=HG5.out.size
             simp at p1
             exact⟨by omega,by omega⟩)
        | (refine rLinksW.mono (rLinksW.keep HR4.out fun b hb=> ?_) fun b hb=> ?_
           · obtain⟨p1,p2⟩:=hb
             exact (HG5.out.block b (by simp;omega) (fun e=>by have e':some b=some w4.heap.size:=e;injection e' with e';omega)).trans (Below.heap_alloc w4 _ b p2)
           · obtain⟨p1,p2⟩:=hb
             have:=HG5.out.size
             simp at p1 this
             exact⟨by omega,by omega⟩)
    clear HR4 HG5 HO5 HAT5
    have hb5:Below w.heap.size w w5:=below_then k5 hbW
    have Y0:w5.cell? ⟨w.heap.size+1,0,none⟩=some (.slice none 0 0):=y0
    have Y1:w5.cell? ⟨w.heap.size+1,1,none⟩=some (.slice none 0 0):=y1
    go_wp2
    refine bodyPost_ret (v:=.agg #[.slice a4 x.links.length c4,.slice a5 x.data.length c5]) (by simp[results,Tryz.results238,go_sem,Y0,Y1]) rfl ⟨_,_,rfl,?_,?_,by (repeat (first | exact Below.refl _ _ | assumption | (refine below_alloc ?_ _) | (refine Below.setCell ?_ (by first | omega | (simp;done) | (simp;omega)) _) | (refine Below.drew ?_) | (refine below_drewN ?_ _) | (refine below_then (by assumption) ?_)))⟩
    · refine rLinksW.mono (rLinksW.keep hr6 fun b hb=> ?_) fun b hb=>⟨by omega,by simp;omega⟩
      repeat rw[Below.heap_setCell _ _ _ _ (by dsimp only;omega)]
    · refine rBytes.mono (rBytes.keep hr5 fun b hb=> ?_) fun b hb=>⟨by omega,by simp;omega⟩
      repeat rw[Below.heap_setCell _ _ _ _ (by dsimp only;omega)]
theorem entry_copy(x:Entry)(a1 a2:Option Addr)(n1 c1 n2 c2:Nat)(w:World)(hl:rLinks.r (·<w.heap.size) w [.slice a1 n1 c1] x.links)(hd:rBytes.r (·<w.heap.size) w [.slice a2 n2 c2] x.data)
  (hlen:x.links.length≤1000000000000) (hdl:x.data.length≤1000000000000) (hb:∀z∈x.links,z.backs.length≤1000000000000):
  Calls Tryz.prog 238 #[.agg #[.slice a1 n1 c1,.slice a2 n2 c2]] w fun r w'=>∃v1 v2,r=.returned (.agg #[v1,v2])∧rLinks.r (Fresh w w') w' [v1] x.links∧rBytes.r (Fresh w w') w' [v2] x.data∧Below w.heap.size w w':=
 (entry_copyW x a1 a2 n1 c1 n2 c2 w hl hd hlen hdl hb).mono fun r w' ⟨v1,v2,h1,h2,h3,h4⟩=>⟨v1,v2,h1,linksW_links h2,h3,h4⟩
theorem infoEntry:(Tryz.prog.info? 84).map (fun i=>(i.zero,i.size,i.bytes))=some (some (.agg #[.slice none 0 0,.slice none 0 0]),2,48):=by kernel_rfl
def Mild(x:Entry):Prop:=x.links.length≤1000000000000∧x.data.length≤1000000000000∧∀z∈x.links,z.backs.length≤1000000000000
def MildB(x:Batch):Prop:=x.entries.length≤1000000000000∧∀z∈x.entries,Mild z
end Go.Proofs.YtmioakocnebceaaGreat
