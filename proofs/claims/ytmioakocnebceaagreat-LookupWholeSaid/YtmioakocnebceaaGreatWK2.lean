/- Mini: Needed by lookupWhole_walk, part 2: texts put together by shake.py; no condition. -/
import Derived.Test.YtmioakocnebceaaGreatWK1
import Derived.Maps.OwnOps
import Derived.Maps.Views
import Derived.Sort.QuietThIn
import Derived.Sort.BigQuietIn
import Derived.Sort.QuietTacIn
import Derived.RangeFuncNested
import Derived.RangeFuncBound
import Derived.RangeFuncCalls
import Derived.RangeFuncLeaves
import Derived.Shelf.Abstract
import Derived.Shelf.RegionOpen
import Derived.OwnWalkIn
import Derived.TacticsInMore
import Derived.LoopNIn
import Derived.LoopIn
import Derived.Maps.OwnIn
import Derived.StillTailTactics
set_option linter.unusedVariables false
set_option linter.unusedSimpArgs false
set_option maxRecDepth 100000
set_option maxHeartbeats 6400000
namespace Go.Proofs.YtmioakocnebceaaGreat
open Go.RowKit Go.Bs
def mlenAt(b:List UInt8)(p off k:Nat):Nat:=k+runLen b off (b.length-p-k) (p+k)
theorem mlenAt_zero{b:List UInt8}{p off:Nat}(h:p<b.length∧1≤off∧off≤p):mlen b p off=mlenAt b p off 0:=by
 unfold mlen mlenAt
 rw[if_pos h];simp
theorem mlenAt_yes{b:List UInt8}{p off k:Nat}(h:same1 b (p+k) (p+k-off)=true):mlenAt b p off k=mlenAt b p off (k+1)∧p+k<b.length:=by
 simp only[same1,Bool.and_eq_true,decide_eq_true_eq] at h
 refine⟨?_,h.1⟩
 unfold mlenAt
 obtain⟨f,hf⟩:∃f,b.length-p-k=f+1:=⟨b.length-p-k-1,by omega⟩
 rw[hf,show b.length-p-(k+1)=f by omega]
 simp only[runLen]
 rw[if_pos h,show p+(k+1)=p+k+1 by omega]
 omega
theorem mlenAt_no{b:List UInt8}{p off k:Nat}(h:same1 b (p+k) (p+k-off)=false):mlenAt b p off k=k:=by
 unfold mlenAt
 rcases Nat.eq_zero_or_pos (b.length-p-k) with h0 | h0
 ·rw[h0];rfl
 ·obtain⟨f,hf⟩:∃f,b.length-p-k=f+1:=⟨b.length-p-k-1,by omega⟩
  rw[hf]
  simp only[runLen]
  rw[if_neg]
  ·omega
  ·rintro⟨h1,h2⟩
   have:same1 b (p+k) (p+k-off)=true:=by unfold same1;rw[decide_eq_true h1,decide_eq_true h2];rfl
   rw[this] at h;cases h
theorem mlen_zero{b:List UInt8}{p off:Nat}(h:¬(p<b.length∧1≤off∧off≤p)):mlen b p off=0:=by
 unfold mlen;rw[if_neg h]
theorem seek_match1(b:List UInt8)(p off:Nat)(a:Option Addr)(n c:Nat)(w:World)(hl:rBytes.r (·<w.heap.size) w [.slice a n c] b)(hlen:b.length≤1048576)(hp:p≤1048576)(ho:off≤1048577):
  Calls Tryz.prog 421 #[.slice a n c,.int .i64 p,.int .i64 off] w fun r w'=>r=.returned (.int .i64 (mlen b p off))∧Below w.heap.size w w':=by
 obtain⟨rfl,hm,_,_⟩:=sl_len hl
 by_cases h1:p<b.length
 ·have d0:decide ((p:Int)<0)=false:=by simp
  have d1:decide ((b.length:Int)≤(p:Int))=false:=by simp;omega
  have d1':decide (b.length≤p)=false:=by simp;omega
  by_cases h2:1≤off
  ·have d2:decide ((off:Int)<1)=false:=by simp;omega
   by_cases h3:off≤p
   ·have d3:decide ((p:Int)<(off:Int))=false:=by simp;omega
    have d3':decide (p<off)=false:=by simp;omega
    have hff:=hid (mlenAt_zero (off:=off) ⟨h1,h2,h3⟩)
    obtain⟨g,o,hA,hg,_⟩:=byte_at hl h1
    subst hA
    have HL:=hid hl;clear hl
    go_enter Tryz.func421,Tryz.ntmps421
    go_wp2_with fail
    go_loopw [7] (fun i wr=>∃k:Nat,k≤b.length-p∧i=.int .i64 k∧Hid (mlen b p off=mlenAt b p off k)∧Below w.heap.size w wr) (fun i _=>b.length-(intOf i).toNat)
    case atStart=>exact ⟨0,Nat.zero_le _,rfl,hff,Below.refl _ _⟩
    case round=>
     obtain⟨k,hk,rfl,hf,hb⟩:=hrel
     clear hff
     have d4:decide ((k:Int)<1048576)=true:=by simp;omega
     by_cases hlt:p+k<b.length
     ·have d5:decide ((p:Int)+(k:Int)<(b.length:Int))=true:=by simp;omega
      have hlq:p+k-off<b.length:=by omega
      obtain⟨g1,o1,hA1,_,hc⟩:=byte_at HL.out hlt
      obtain⟨g2,o2,hA2,_,hc'⟩:=byte_at HL.out hlq
      simp only[Option.some.injEq,Addr.mk.injEq,and_true] at hA1 hA2
      obtain⟨rfl,rfl⟩:=hA1
      obtain⟨rfl,rfl⟩:=hA2
      have C1:=fun s:Later wr=>s.cell ((hb.cell (p:=⟨g,o+(p+k),none⟩) hg).trans hc)
      have C2:=fun s:Later wr=>s.cell ((hb.cell (p:=⟨g,o+(p+k-off),none⟩) hg).trans hc')
      have hsa:=same1_at hlt hlq
      generalize b[p+k]=x at*
      generalize b[p+k-off]=y at*
      clear hc hc'
      have i1:(0:Int)≤(p:Int)+(k:Int):=by omega
      have i2:(0:Int)≤(p:Int)+(k:Int)-(off:Int):=by omega
      have i3:(p:Int)+(k:Int)-(off:Int)<(b.length:Int):=by omega
      have i4:(p:Int)+(k:Int)<(b.length:Int):=by omega
      have t1:((p:Int)+(k:Int)).toNat=p+k:=by omega
      have t2:((p:Int)+(k:Int)-(off:Int)).toNat=p+k-off:=by omega
      cases hs:same1 b (p+k) (p+k-off)
      ·have hend:=hid (mlenAt_no hs)
       rw[hs] at hsa
       have e1:((x.toNat:Int)==(y.toNat:Int))=false:=hsa.symm
       clear hs hsa
       go_wp2_with fail
       refine wp_region_later (by kernel_rfl) (by kernel_rfl) ?_
       repeat (go_big_quiet_step (fail))
       refine wpQuiet_nil ?_
       rintro W5 ⟨⟨W5',hb5⟩,rfl⟩
       go_wp2
       go_ret
       exact⟨by rw[hf.out,hend.out];rfl,below_then hb5 hb⟩
      ·obtain⟨hn,_⟩:=mlenAt_yes hs
       have HN:=hid hn
       rw[hs] at hsa
       have e1:((x.toNat:Int)==(y.toNat:Int))=true:=hsa.symm
       clear hs hsa hn
       go_wp2_with fail
       refine wp_region_later (by kernel_rfl) (by kernel_rfl) ?_
       repeat (go_big_quiet_step (fail))
       refine wpQuiet_nil ?_
       rintro W5 ⟨⟨W5',hb5⟩,rfl⟩
       clear t1 t2
       go_wp2
       go_roundw
       case rel=>exact ⟨k+1,by omega,by go_num,hid (by rw[hf.out,HN.out]),below_then hb5 hb⟩
       case measure=>simp [intOf];omega
     ·have d5:decide ((p:Int)+(k:Int)<(b.length:Int))=false:=by simp;omega
      have hs:same1 b (p+k) (p+k-off)=false:=by simp[same1,hlt]
      have hend:=hid (mlenAt_no hs)
      clear hs
      go_wp2_with fail
      refine wp_region_later (by kernel_rfl) (by kernel_rfl) ?_
      repeat (go_big_quiet_step (fail))
      refine wpQuiet_nil ?_
      rintro W5 ⟨⟨W5',hb5⟩,rfl⟩
      go_wp2
      go_ret
      exact⟨by rw[hf.out,hend.out];rfl,below_then hb5 hb⟩
   ·have d3:decide ((p:Int)<(off:Int))=true:=by simp;omega
    have hff:=hid (mlen_zero (b:=b) (p:=p) (off:=off) (by omega))
    go_enter Tryz.func421,Tryz.ntmps421
    go_wp2
    go_ret
    exact⟨by rw[hff.out];rfl,by (repeat (first | exact Below.refl _ _ | assumption | (refine below_alloc ?_ _) | (refine Below.setCell ?_ (by first | omega | (simp;done) | (simp;omega)) _) | (refine Below.drew ?_) | (refine below_drewN ?_ _) | (refine below_then (by assumption) ?_)))⟩
  ·have d2:decide ((off:Int)<1)=true:=by simp;omega
   have hff:=hid (mlen_zero (b:=b) (p:=p) (off:=off) (by omega))
   go_enter Tryz.func421,Tryz.ntmps421
   go_wp2
   go_ret
   exact⟨by rw[hff.out];rfl,by (repeat (first | exact Below.refl _ _ | assumption | (refine below_alloc ?_ _) | (refine Below.setCell ?_ (by first | omega | (simp;done) | (simp;omega)) _) | (refine Below.drew ?_) | (refine below_drewN ?_ _) | (refine below_then (by assumption) ?_)))⟩
 ·have d1:decide ((b.length:Int)≤(p:Int))=true:=by simp;omega
  have hff:=hid (mlen_zero (b:=b) (p:=p) (off:=off) (by omega))
  go_enter Tryz.func421,Tryz.ntmps421
  go_wp2
  go_ret
  exact⟨by rw[hff.out];rfl,by (repeat (first | exact Below.refl _ _ | assumption | (refine below_alloc ?_ _) | (refine Below.setCell ?_ (by first | omega | (simp;done) | (simp;omega)) _) | (refine Below.drew ?_) | (refine below_drewN ?_ _) | (refine below_then (by assumption) ?_)))⟩
theorem seek_match(b:List UInt8)(p off:Int)(h0:0≤p)(h1:0≤off)(a:Option Addr)(n c:Nat)(w:World)(hl:rBytes.r (·<w.heap.size) w [.slice a n c] b)(hlen:b.length≤1048576)(hp:p≤1048576)(ho:off≤1048577):
  Calls Tryz.prog 421 #[.slice a n c,.int .i64 p,.int .i64 off] w fun r w'=>r=.returned (.int .i64 (mlen b p.toNat off.toNat))∧Below w.heap.size w w':=by
 obtain⟨p',rfl⟩:=Int.eq_ofNat_of_zero_le h0
 obtain⟨q',rfl⟩:=Int.eq_ofNat_of_zero_le h1
 exact seek_match1 b p' q' a n c w hl hlen (by omega) (by omega)
theorem seek_taken(o n:Int)(w:World):Calls Tryz.prog 422 #[.int .i64 o,.int .i64 n] w fun r w'=>r=.returned (.tuple #[.int .i64 (if n<4 then 0 else o),.int .i64 (if n<4 then 0 else n)])∧w=w':=by
 by_cases h:n<4
 ·rw[if_pos h,if_pos h]
  have d1:decide (n<4)=true:=by simpa using h
  clear h
  go_enter Tryz.func422,Tryz.ntmps422
  go_wp2
  go_ret2
  exact⟨rfl,rfl⟩
 ·rw[if_neg h,if_neg h]
  have d1:decide (n<4)=false:=by simpa using h
  clear h
  go_enter Tryz.func422,Tryz.ntmps422
  go_wp2
  go_ret2
  exact⟨rfl,rfl⟩
theorem bits_or_u32_nat(a b:Nat)(ha:a<4294967296)(hb:b<4294967296):bits .or .u32 (a:Int) (b:Int)=((a ||| b:Nat):Int):=by
 have hx:a ||| b<2^32:=Nat.or_lt_two_pow (by omega) (by omega)
 have h1:(BitVec.ofInt 32 (a:Int)).toNat=a:=by
  rw[BitVec.ofInt_natCast,BitVec.toNat_ofNat];exact Nat.mod_eq_of_lt (by omega)
 have h2:(BitVec.ofInt 32 (b:Int)).toNat=b:=by
  rw[BitVec.ofInt_natCast,BitVec.toNat_ofNat];exact Nat.mod_eq_of_lt (by omega)
 show IntKind.u32.wrap ((BitVec.ofInt 32 (a:Int) ||| BitVec.ofInt 32 (b:Int)).toNat:Int)=_
 rw[BitVec.toNat_or,h1,h2,IntKind.wrap_u32]
 omega
theorem or_add(a c k:Nat)(h:a<2^k):a ||| (c*2^k)=a+c*2^k:=by
 rw[Nat.or_comm,←Nat.shiftLeft_eq,←Nat.shiftLeft_add_eq_or_of_lt h,Nat.add_comm]
theorem or_u32(a c k m:Nat)(hm:2^k=m)(h:a<m)(hc:c*m<4294967296)(ha:a<4294967296):bits .or .u32 (a:Int) ((c:Int)*(m:Int))=(a:Int)+c*m:=by
 have e:((c:Int)*(m:Int))=((c*m:Nat):Int):=by simp
 rw[e,bits_or_u32_nat a (c*m) ha hc,←hm,or_add a c k (by rw[hm];exact h)]
 simp
theorem key_bits(x0 x1 x2 x3:UInt8):bits .or .u32 (bits .or .u32 (bits .or .u32 (bits .or .u32 0 ((x0.toNat:Int)%4294967296)) ((x1.toNat:Int)%4294967296*256%4294967296)) ((x2.toNat:Int)%4294967296*65536%4294967296)) ((x3.toNat:Int)%4294967296*16777216%4294967296)=((x0.toNat+256*x1.toNat+65536*x2.toNat+16777216*x3.toNat:Nat):Int):=by
 have h0:=x0.toNat_lt;have h1:=x1.toNat_lt;have h2:=x2.toNat_lt;have h3:=x3.toNat_lt
 have e0:(x0.toNat:Int)%4294967296=((x0.toNat:Nat):Int)*((1:Nat):Int):=by omega
 have e1:(x1.toNat:Int)%4294967296*256%4294967296=(x1.toNat:Int)*((256:Nat):Int):=by omega
 have e2:(x2.toNat:Int)%4294967296*65536%4294967296=(x2.toNat:Int)*((65536:Nat):Int):=by omega
 have e3:(x3.toNat:Int)%4294967296*16777216%4294967296=(x3.toNat:Int)*((16777216:Nat):Int):=by omega
 have ez:(0:Int)=((0:Nat):Int):=rfl
 rw[e0,e1,e2,e3,ez,or_u32 0 x0.toNat 0 1 (by decide) (by omega) (by omega) (by omega)]
 have f0:((0:Nat):Int)+(x0.toNat:Int)*((1:Nat):Int)=((x0.toNat:Nat):Int):=by omega
 rw[f0,or_u32 x0.toNat x1.toNat 8 256 (by decide) (by omega) (by omega) (by omega)]
 have f1:(x0.toNat:Int)+(x1.toNat:Int)*((256:Nat):Int)=((x0.toNat+256*x1.toNat:Nat):Int):=by omega
 rw[f1,or_u32 (x0.toNat+256*x1.toNat) x2.toNat 16 65536 (by decide) (by omega) (by omega) (by omega)]
 have f2:((x0.toNat+256*x1.toNat:Nat):Int)+(x2.toNat:Int)*((65536:Nat):Int)=((x0.toNat+256*x1.toNat+65536*x2.toNat:Nat):Int):=by omega
 rw[f2,or_u32 (x0.toNat+256*x1.toNat+65536*x2.toNat) x3.toNat 24 16777216 (by decide) (by omega) (by omega) (by omega)]
 omega
def keyV(b:List UInt8)(p:Nat):Int × Bool:=match keyAt b p with | some k=>(k,true) | none=>(0,false)
theorem keyV_some{b:List UInt8}{p:Nat}(hp:p+4≤b.length):keyAt b p=some (b[p].toNat+256*b[p+1].toNat+65536*b[p+2].toNat+16777216*b[p+3].toNat):=by
 unfold keyAt
 rw[List.getElem?_eq_getElem (show p<b.length by omega),List.getElem?_eq_getElem (show p+1<b.length by omega),List.getElem?_eq_getElem (show p+2<b.length by omega),List.getElem?_eq_getElem (show p+3<b.length by omega)]
theorem keyV_none{b:List UInt8}{p:Nat}(hp:b.length<p+4):keyAt b p=none:=by
 unfold keyAt
 rw[List.getElem?_eq_none (show b.length≤p+3 by omega)]
 split<;>simp_all
theorem chain_key1(b:List UInt8)(p:Nat)(a:Option Addr)(n c:Nat)(w:World)(hl:rBytes.r (·<w.heap.size) w [.slice a n c] b)(hlen:b.length≤1048576)(hp:p+4≤b.length):
  Calls Tryz.prog 427 #[.slice a n c,.int .i64 p] w fun r w'=>r=.returned (.tuple #[.int .u32 (keyV b p).1,.bool (keyV b p).2])∧w=w':=by
 have hff:Hid (keyV b p=(((b[p].toNat+256*b[p+1].toNat+65536*b[p+2].toNat+16777216*b[p+3].toNat:Nat):Int),true)):=hid (by unfold keyV;rw[keyV_some hp])
 obtain⟨rfl,hm,_,_⟩:=sl_len hl
 obtain⟨g,o,hA,hg,c0⟩:=byte_at hl (i:=p) (by omega)
 obtain⟨g1,o1,hA1,_,c1⟩:=byte_at hl (i:=p+1) (by omega)
 obtain⟨g2,o2,hA2,_,c2⟩:=byte_at hl (i:=p+2) (by omega)
 obtain⟨g3,o3,hA3,_,c3⟩:=byte_at hl (i:=p+3) (by omega)
 subst hA
 simp only[Option.some.injEq,Addr.mk.injEq,and_true] at hA1 hA2 hA3
 obtain⟨rfl,rfl⟩:=hA1
 obtain⟨rfl,rfl⟩:=hA2
 obtain⟨rfl,rfl⟩:=hA3
 have HL:=hid hl;clear hl
 have d0:decide ((p:Int)<0)=false:=by simp
 have d1:decide ((b.length:Int)-4<(p:Int))=false:=by simp;omega
 generalize b[p]=x0 at*
 generalize b[p+1]=x1 at*
 generalize b[p+2]=x2 at*
 generalize b[p+3]=x3 at*
 have i0:(0:Int)≤(p:Int):=by omega
 have i1:(p:Int)+3<(b.length:Int):=by omega
 have i2:(p:Int)+2<(b.length:Int):=by omega
 have i3:(p:Int)+1<(b.length:Int):=by omega
 have i4:(p:Int)<(b.length:Int):=by omega
 go_enter Tryz.func427,Tryz.ntmps427
 go_wp2_with fail
 refine wp_loop_rounds 5 ?_
 rw[rounds_succ]
 go_wp2_with fail
 rw[rounds_succ]
 go_wp2_with fail
 rw[rounds_succ]
 go_wp2_with fail
 rw[rounds_succ]
 go_wp2_with fail
 rw[rounds_succ]
 go_wp2_with fail
 go_ret2
 exact⟨by rw[hff.out,←key_bits];rfl,rfl⟩
theorem chain_key0(b:List UInt8)(p:Nat)(a:Option Addr)(n c:Nat)(w:World)(hl:rBytes.r (·<w.heap.size) w [.slice a n c] b)(hlen:b.length≤1048576)(hp:b.length<p+4)(hp2:p≤1048576):
  Calls Tryz.prog 427 #[.slice a n c,.int .i64 p] w fun r w'=>r=.returned (.tuple #[.int .u32 (keyV b p).1,.bool (keyV b p).2])∧w=w':=by
 have hff:Hid (keyV b p=(0,false)):=hid (by unfold keyV;rw[keyV_none hp])
 obtain⟨rfl,hm,_,_⟩:=sl_len hl
 clear hl
 have d0:decide ((p:Int)<0)=false:=by simp
 have d1:decide ((b.length:Int)-4<(p:Int))=true:=by simp;omega
 go_enter Tryz.func427,Tryz.ntmps427
 go_wp2
 go_ret2
 exact⟨by rw[hff.out];rfl,rfl⟩
theorem chain_key(b:List UInt8)(p:Nat)(a:Option Addr)(n c:Nat)(w:World)(hl:rBytes.r (·<w.heap.size) w [.slice a n c] b)(hlen:b.length≤1048576)(hp:p≤1048576):
  Calls Tryz.prog 427 #[.slice a n c,.int .i64 p] w fun r w'=>r=.returned (.tuple #[.int .u32 (keyV b p).1,.bool (keyV b p).2])∧w=w':=by
 by_cases h:p+4≤b.length
 ·exact chain_key1 b p a n c w hl hlen h
 ·exact chain_key0 b p a n c w hl hlen (by omega) hp
end Go.Proofs.YtmioakocnebceaaGreat
namespace Go.Bs
open Go.RowKit
structure Tch(F:Nat→Prop)(w w':World):Prop where
 os:w'.os=w.os
 tape:w'.tape=w.tape
 output:w'.output=w.output
 size:w.heap.size≤w'.heap.size
 block:∀b,b<w.heap.size→¬F b→w'.heap[b]? =w.heap[b]?
section
variable {F G:Nat→Prop} {w w' w'':World}
theorem Tch.refl(F:Nat→Prop)(w:World):Tch F w w:=⟨rfl,rfl,rfl,Nat.le_refl _,fun _ _ _=>rfl⟩
theorem Tch.trans(h:Tch F w w')(k:Tch G w' w'')(hG:∀b,b<w.heap.size→G b→F b):Tch F w w'':=
 ⟨k.os.trans h.os,k.tape.trans h.tape,k.output.trans h.output,Nat.le_trans h.size k.size,fun b hb hF=>(k.block b (Nat.lt_of_lt_of_le hb h.size) (fun hg=>hF (hG b hb hg))).trans (h.block b hb hF)⟩
theorem Tch.mono(h:Tch F w w')(hF:∀b,b<w.heap.size→F b→G b):Tch G w w':=⟨h.os,h.tape,h.output,h.size,fun b hb hg=>h.block b hb (fun hf=>hg (hF b hb hf))⟩
theorem Tch.of_below{B:Nat}(h:Below B w w'):Tch (fun b=>B≤b) w w':=⟨h.os,h.tape,h.output,h.size,fun b hb hf=>h.block b (by omega)⟩
theorem Tch.of_later(h:Below w.heap.size w w'):Tch F w w':=⟨h.os,h.tape,h.output,h.size,fun b hb _=>h.block b hb⟩
theorem Tch.of_grown{row:Option Nat}(h:w.grownBy w' row):Tch (fun b=>row=some b) w w':=⟨h.os,h.tape,h.output,h.size,fun b hb hf=>h.block b hb (fun e=>hf e.symm)⟩
theorem Tch.alloc(h:Tch F w w')(o:Obj):Tch F w (w'.alloc o):=h.trans (Tch.of_later (F:=F) ((Below.refl _ _).alloc (Nat.le_refl _) o)) fun _ _ h=>h
theorem Tch.drew(h:Tch F w w'):Tch F w w'.drew:=⟨h.os,h.tape,h.output,h.size,h.block⟩
theorem Tch.drewN(h:Tch F w w')(n:Nat):Tch F w (w'.drewN n):=⟨h.os,h.tape,h.output,h.size,h.block⟩
theorem Tch.setCell(h:Tch F w w'){p:Addr}(hp:p.block<w.heap.size→F p.block)(u:Value):Tch F w (w'.setCell p u):=
 ⟨h.os,h.tape,h.output,by simpa [World.setCell] using h.size,fun b hb hf=>(Below.heap_setCell w' p u b (fun e=>hf (e ▸ hp (e ▸ hb)))).trans (h.block b hb hf)⟩
theorem Tch.below{B:Nat}(h:Tch F w w')(hF:∀b,b<w.heap.size→F b→B≤b):Below B w w'∨w.heap.size<B:=by
 by_cases hB:B≤w.heap.size
 ·exact .inl ⟨h.os,h.tape,h.output,h.size,fun b hb=>h.block b (by omega) (fun hf=>by have:=hF b (by omega) hf;omega)⟩
 ·exact .inr (by omega)
theorem Tch.to_below{B:Nat}(h:Tch F w w')(hB:B≤w.heap.size)(hF:∀b,b<w.heap.size→F b→B≤b):Below B w w':=(h.below hF).resolve_right (by omega)
theorem Tch.cell(h:Tch F w w'){p:Addr}(hb:p.block<w.heap.size)(hf:¬F p.block):w'.cell? p=w.cell? p:=World.cell?_of_block (h.block _ hb hf)
theorem Tch.frozen(h:Tch F w w'){p:Addr}(hb:p.block<w.heap.size)(hf:¬F p.block):w'.frozen? p=w.frozen? p:=World.frozen?_of_block (h.block _ hb hf)
theorem Blk.tch{g:Nat}{t:TypeId}{cs:Array Value}(h:Blk w g t cs)(k:Tch F w w')(hf:¬F g):Blk w' g t cs:=(k.block g h.lt hf).trans h
theorem src_new1{w:World}(W:World)(e:TypeId)(cs:List Value)(hB:w=W.alloc (.cells cs.toArray e)){g:Nat}(hg:g=W.heap.size){sz:Nat}(hs:cs.length=sz):Src w (some ⟨g,0,none⟩) 1 sz cs:=by
 subst hB hg
 refine⟨by omega,.inr ⟨_,0,rfl,fun j u hu=> ?_⟩⟩
 rw[Nat.zero_add,Blk.cell (Blk.new W e cs.toArray)]
 simpa using hu
end
end Go.Bs
namespace Go.Proofs.YtmioakocnebceaaGreat
open Go.RowKit Go.Bs Go.Maps
def prevN(b:List UInt8)(j:Nat):Nat:=match keyAt b j with | some k=>lastP b k j | none=>0
def prevs(b:List UInt8)(n:Nat):List Value:=(List.range n).map fun j=> .int .i64 (prevN b j:Int)
theorem prevs_succ(b:List UInt8)(n:Nat):prevs b (n+1)=prevs b n++[.int .i64 (prevN b n:Int)]:=by simp[prevs,List.range_succ]
theorem prevs_length(b:List UInt8)(n:Nat):(prevs b n).length=n:=by simp[prevs]
def LastsAt(D:DataW Unit)(b:List UInt8)(n:Nat):Prop:=∀k:Nat,k<4294967296→D.atKey (.int .u32 (k:Int)) (.lit (.int .i64 0))=.lit (.int .i64 (lastP b k n:Int))
theorem u32_wf{k:Nat}(h:k<4294967296):(Lit.int .u32 (k:Int)).wf=true:=by
 simp[Lit.wf,IntKind.min,IntKind.max,IntKind.signed,IntKind.bits];omega
theorem keyAt_lt{b:List UInt8}{p k:Nat}(h:keyAt b p=some k):k<4294967296:=by
 by_cases hp:p+4≤b.length
 ·rw[keyV_some hp] at h
  have h0:=b[p].toNat_lt;have h1:=b[p+1].toNat_lt;have h2:=b[p+2].toNat_lt;have h3:=b[p+3].toNat_lt
  simp only[Option.some.injEq] at h
  omega
 ·rw[keyV_none (by omega)] at h;cases h
theorem LastsAt.none{D:DataW Unit}{b:List UInt8}{n:Nat}(h:LastsAt D b n)(hk:keyAt b n=none):LastsAt D b (n+1):=fun k hlt=>by
 rw[h k hlt]
 simp only[lastP]
 rw[hk,if_neg (by simp)]
theorem LastsAt.some{D:DataW Unit}{b:List UInt8}{n k:Nat}(h:LastsAt D b n)(hD:IsMap D)(hk:keyAt b n=some k):LastsAt (D.put (.int .u32 (k:Int)) (.lit (.int .i64 ((n:Int)+1)))) b (n+1):=fun k' hlt=>by
 by_cases e:k'=k
 ·subst e
  rw[atKey_put_same hD (by trivial)]
  simp only[lastP]
  rw[if_pos hk];simp
 ·rw[atKey_put_other (by simp;omega),h k' hlt]
  simp only[lastP]
  rw[if_neg (by rw[hk];simp;omega)]
structure ChAt(w:World)(g mb base:Nat)(b:List UInt8)(n:Nat)(ab:Option Addr)(cb:Nat)(ap:Option Addr)(cp:Nat):Prop where
 blk:Blk w g 470 #[.slice ab b.length cb,.map (some mb),.slice ap n cp]
 bytes:rBytes.r (fun q=>q<w.heap.size∧q≠g∧q≠mb∧(Value.slice ap n cp).ownBlock≠some q) w [.slice ab b.length cb] b
 map:∃D:DataW Unit,w.ownsMap Tryz.prog 178 (plainElem Tryz.prog 3) mb n D∧LastsAt D b n
 prev:w.ownsRow base 3 1 (.slice ap n cp) n (prevs b n)
 ne1:g≠mb
 ne2:(Value.slice ap n cp).ownBlock≠some g
 ne3:(Value.slice ap n cp).ownBlock≠some mb
 lo:base≤g
 le:n≤b.length
 len:b.length≤1048576
theorem infoInt:(Tryz.prog.info? 3).map (fun i=>(i.zero,i.size,i.bytes))=some (some (.int .i64 0),1,8):=by kernel_rfl
theorem zeroInt(w:World):(zeroValue 3).run Tryz.prog w=.ok (.int .i64 0) w:=by kernel_rfl
theorem lawU32:Keyed Tryz.prog 178:=int_keyed Tryz.underlying178
theorem chain_added(w:World){g mb base:Nat}{b:List UInt8}{n:Nat}{ab:Option Addr}{cb:Nat}{ap:Option Addr}{cp:Nat}(h:ChAt w g mb base b n ab cb ap cp):
  Calls Tryz.prog 424 #[.pointer (some ⟨g,0,none⟩)] w fun r w'=>r=.returned (.int .i64 n)∧w=w':=by
 have c2:w.cell? ⟨g,2,none⟩=some (.slice ap n cp):=h.blk.cell 2
 clear h
 go_enter Tryz.func424,Tryz.ntmps424
 go_wp2
 go_ret
 exact⟨rfl,rfl⟩
def ChStep(w:World)(g mb base:Nat)(b:List UInt8)(n n':Nat)(ab:Option Addr)(cb:Nat)(ap:Option Addr)(cp:Nat)(w':World):Prop:=
 ∃ap' cp',ChAt w' g mb base b n' ab cb ap' cp'∧Tch (fun q=>q=g∨q=mb∨(Value.slice ap n cp).ownBlock=some q) w w'∧((Value.slice ap' n' cp').ownBlock=(Value.slice ap n cp).ownBlock∨∃q,(Value.slice ap' n' cp').ownBlock=some q∧w.heap.size≤q)
def AddPost(w:World)(g mb base:Nat)(b:List UInt8)(n:Nat)(ab:Option Addr)(cb:Nat)(ap:Option Addr)(cp:Nat)(r:Ending)(w':World):Prop:=r=.returned (.bool true)∧ChStep w g mb base b n (n+1) ab cb ap cp w'
theorem map_keep{w w':World}{K:TypeId}{R:Value→Option (DataW Unit × List MemPlace)}{m n:Nat}{D:DataW Unit}(h:w.ownsMap Tryz.prog K R m n D)(e:w'.heap[m]? =w.heap[m]?):w'.ownsMap Tryz.prog K R m n D:=by
 obtain⟨es,clock,hb,F,hs,hD⟩:=h
 exact⟨es,clock,e.trans hb,F,hs,hD⟩
theorem own_keep{w w':World}{base:Nat}{e:TypeId}{size:Nat}{v:Value}{n:Nat}{xs:List Value}(h:w.ownsRow base e size v n xs)(hv:∀g,v.ownBlock=some g→w'.heap[g]? =w.heap[g]?):w'.ownsRow base e size v n xs:=by
 refine⟨h.1,?_⟩
 rcases h.2 with h0 | ⟨g,cap,cur,h1,h2,h3,h4⟩
 ·exact .inl h0
 ·exact .inr ⟨g,cap,cur,h1,h2,by rw[hv g (by rw[h1];rfl)];exact h3,h4⟩
theorem ch_next{w w0 w1:World}{g mb base:Nat}{b:List UInt8}{n:Nat}{ab:Option Addr}{cb:Nat}{ap:Option Addr}{cp:Nat}{a':Option Addr}{c':Nat}{o:Obj}(h:ChAt w g mb base b n ab cb ap cp)(hn:n<b.length)(h0:Tch (fun q=>q=mb) w w0)
  (hmap:∃D:DataW Unit,w0.ownsMap Tryz.prog 178 (plainElem Tryz.prog 3) mb (n+1) D∧LastsAt D b (n+1))
  (hown:w1.ownsRow base 3 1 (.slice a' (n+1) c') (n+1) (prevs b n++[.int .i64 (prevN b n:Int)])) (hgrow:(w0.alloc o).grownBy w1 (Value.slice ap n cp).ownBlock)
  (hat:(Value.slice a' (n+1) c').ownBlock=(Value.slice ap n cp).ownBlock∨(Value.slice a' (n+1) c').ownBlock=some (w0.alloc o).heap.size):
  ChStep w g mb base b n (n+1) ab cb ap cp (w1.setCell ⟨g,2,none⟩ (.slice a' (n+1) c')):=by
 have hg:=h.blk.lt
 have hs0:=h0.size
 have hs1:w0.heap.size+1≤w1.heap.size:=by have:=hgrow.size;simpa using this
 have hn2:(Value.slice a' (n+1) c').ownBlock≠some g:=fun e=>by
  rcases hat with h1 | h1
  ·rw[h1] at e;exact h.ne2 e
  ·rw[h1] at e;simp at e;omega
 have hmlt:mb<w0.heap.size:=by obtain⟨D,hD,_⟩:=hmap;exact hD.lt
 have keep:∀q,q<w0.heap.size→q≠g→(Value.slice ap n cp).ownBlock≠some q→(w1.setCell ⟨g,2,none⟩ (.slice a' (n+1) c')).heap[q]? =w0.heap[q]? :=fun q hq h1 h2=>
  (Below.heap_setCell w1 _ _ q h1).trans ((hgrow.block q (by simp;omega) (fun e=>h2 e.symm)).trans (Below.heap_alloc w0 _ q hq))
 have hsz:(w1.setCell ⟨g,2,none⟩ (.slice a' (n+1) c')).heap.size=w1.heap.size:=by simp[World.setCell]
 refine⟨a',c',⟨?_,?_,?_,?_,h.ne1,hn2,fun e=> ?_,h.lo,by omega,h.len⟩,?_,?_⟩
 ·have B0:=h.blk.tch h0 h.ne1
  have B1:Blk w1 g _ _:=(B0.alloc o).grown hgrow (fun e=>h.ne2 e.symm)
  exact B1.set 2 _
 ·refine rBytes.mono (rBytes.keep h.bytes fun q hq=>(keep q (by omega) hq.2.1 hq.2.2.2).trans (h0.block q hq.1 hq.2.2.1)) fun q hq=>⟨by rw[hsz];omega,hq.2.1,hq.2.2.1,fun e=> ?_⟩
  rcases hat with h1 | h1
  ·rw[h1] at e;exact hq.2.2.2 e
  ·rw[h1] at e;simp at e;omega
 ·obtain⟨D,hD,hL⟩:=hmap
  exact⟨D,map_keep hD (keep mb hmlt (Ne.symm h.ne1) h.ne3),hL⟩
 ·rw[prevs_succ]
  exact own_keep hown fun q hq=>Below.heap_setCell w1 _ _ q (fun e=>hn2 (by rw[hq,e]))
 ·rcases hat with h1 | h1
  ·rw[h1] at e;exact h.ne3 e
  ·rw[h1] at e;simp at e;omega
 ·exact⟨hgrow.os.trans h0.os,hgrow.tape.trans h0.tape,hgrow.output.trans h0.output,by rw[hsz];omega,fun q hq hf=>(keep q (by omega) (fun e=>hf (.inl e)) (fun e=>hf (.inr (.inr e)))).trans (h0.block q hq (fun e=>hf (.inr (.inl e))))⟩
 ·rcases hat with h1 | h1
  ·exact .inl h1
  ·exact .inr ⟨_,h1,by simp;omega⟩
theorem chain_add(w:World){g mb base:Nat}{b:List UInt8}{n:Nat}{ab:Option Addr}{cb:Nat}{ap:Option Addr}{cp:Nat}(h:ChAt w g mb base b n ab cb ap cp)(hn:n<b.length):
  Calls Tryz.prog 425 #[.pointer (some ⟨g,0,none⟩)] w (AddPost w g mb base b n ab cb ap cp):=by
 have hbk:=h.blk
 have c0:w.cell? ⟨g,0,none⟩=some (.slice ab b.length cb):=h.blk.cell 0
 have c1:w.cell? ⟨g,1,none⟩=some (.map (some mb)):=h.blk.cell 1
 have c2:w.cell? ⟨g,2,none⟩=some (.slice ap n cp):=h.blk.cell 2
 have f2:=h.blk.free 2
 have hg:=h.blk.lt
 obtain⟨D,hmap,hD⟩:=h.map
 have hprev:=h.prev
 obtain⟨ne1,ne2,ne3⟩:g≠mb∧(Value.slice ap n cp).ownBlock≠some g∧(Value.slice ap n cp).ownBlock≠some mb:=⟨h.ne1,h.ne2,h.ne3⟩
 have hlen:=h.len
 have hlo:=h.lo
 have hA:=chain_added w h
 have hK:=chain_key b n ab _ cb w (rBytes.mono h.bytes fun q hq=>hq.1) h.len (by omega)
 obtain⟨i0,hi,hz0,hz1,hz2⟩:=info_parts infoInt
 have HH:=hid h;have HM:=hid hmap;have HD:=hid hD;have HP:=hid hprev;have HB:=hid hbk
 have HA:=hid hA;have HKE:=hid hK
 clear h hmap hD hprev hA hK hbk
 have hkv:Hid (keyV b n=match keyAt b n with | some k=>((k:Int),true) | none=>(0,false)):=hid rfl
 have d1:decide ((b.length:Int)≤(n:Int))=false:=by simp;omega
 have d1':decide (b.length≤n)=false:=by simp;omega
 cases hk:keyAt b n with
 | none=>
  have hv:keyV b n=(0,false):=by rw[hkv.out,hk]
  rw[hv] at HKE
  have hpn:prevN b n=0:=by unfold prevN;rw[hk]
  have HK:=hid hk;have HPN:=hid hpn
  clear hk hv hkv hpn
  go_enter Tryz.func425,Tryz.ntmps425
  go_wp2_with fail
  refine HA.out.mono ?_
  rintro r w1 ⟨rfl,rfl⟩
  go_wp2_with fail
  refine HKE.out.mono ?_
  rintro r w1 ⟨rfl,rfl⟩
  go_wp2_with (at_builtin;go_loud (refine wpList_append_src rfl _ _ _ rfl base 3 i0 (.int .i64 0) 1 8 Tryz.underlying234 hi hz0 hz1 hz2 rfl (by decide) (.slice ap n cp) n _ rfl (HP.out.alloc _) (some ⟨w.heap.size,0,none⟩) 1 1 [.int .i64 0] rfl (src_new1 w 3 _ rfl rfl rfl) (by intro u hu;simp at hu;subst hu;rfl) (by simp only[maxLen];omega) (by omega) (by simp;omega) ?_;intro v' w1 hown1 hgrow1 hat1;obtain⟨a',c',rfl⟩:=own_form hown1;have G:=fun q (hq:q<w.heap.size) (hne:(Value.slice ap n cp).ownBlock≠some q)=>(hgrow1.block q (by simp;omega) (fun e=>hne e.symm)).trans (Below.heap_alloc w _ q hq);have hB:=HB.out.later (Below.refl _ _);have g2:=(World.frozen?_of_block (a:=⟨g,2,none⟩) (G g hg ne2)).trans f2;have e2:=(World.cell?_of_block (a:=⟨g,2,none⟩) (G g hg ne2)).trans c2;have hz1:g<w1.heap.size:=Nat.lt_of_lt_of_le hg (Nat.le_trans (by simp) hgrow1.size);have HG:=hid hgrow1;have HO:=hid hown1;have HAT:=hid hat1;have HGG:=hid G;clear hgrow1 hown1 hat1 G hB))
  have hst:=ch_next HH.out hn (Tch.refl _ w) (by
   obtain⟨D,h1,h2⟩:=HH.out.map
   exact⟨D,h1.mono (Nat.le_succ n),h2.none HK.out⟩) (by rw[HPN.out];exact HO.out) HG.out HAT.out
  have HST:=hid hst;clear hst
  go_ret
  exact⟨rfl,HST.out⟩
 | some k=>
  have hv:keyV b n=((k:Int),true):=by rw[hkv.out,hk]
  rw[hv] at HKE
  have hpn:prevN b n=lastP b k n:=by unfold prevN;rw[hk]
  have hklt:=keyAt_lt hk
  have HK:=hid hk;have HPN:=hid hpn
  have HW:=hid (u32_wf hklt)
  clear hk hv hkv hpn hklt
  go_enter Tryz.func425,Tryz.ntmps425
  go_wp2_with fail
  refine HA.out.mono ?_
  rintro r w1 ⟨rfl,rfl⟩
  go_wp2_with fail
  refine HKE.out.mono ?_
  rintro r w1 ⟨rfl,rfl⟩
  have HWF:Hid ((Lit.int .i64 ((n:Int)+1)).wf=true):=hid (by simp[Lit.wf,IntKind.min,IntKind.max,IntKind.signed,IntKind.bits];omega)
  go_wp2_with (first
   | (at_lookup;go_loud (refine wpList_lookup_own_int _ rfl _ _ 468 rfl 178 3 .i64 lawU32 Tryz.underlying468 Tryz.underlying3 (zeroInt _) mb n D rfl HM.out _ _ rfl (keyOf_int_mk Tryz.underlying178 HW.out) ?_;intro c hat hwc;have hc:c=(lastP b k n:Int):=(by have:=HD.out k (by have:=HW.out;simp[Lit.wf,IntKind.max,IntKind.signed,IntKind.bits] at this;omega);rw[hat] at this;simpa using this);subst hc;clear hat hwc))
   | (at_mapUpdate;go_loud (refine wpList_mapUpdate_own _ rfl _ _ _ 468 rfl 178 3 lawU32 Tryz.underlying468 _ mb n _ rfl HM.out (by unfold maxLen;omega) _ _ _ rfl rfl (keyOf_int_mk Tryz.underlying178 HW.out) _ [] (plainElem_int Tryz.underlying3 HWF.out) ?_;intro w2 hown2 hgrow2;have hnm:some g≠some mb:=fun e=>ne1 (Option.some.inj e);have hg2:g<w2.heap.size:=Nat.lt_of_lt_of_le hg hgrow2.size;have c2b:=(World.cell?_of_block (a:=⟨g,2,none⟩) (hgrow2.block g hg hnm)).trans c2;have f2b:=(World.frozen?_of_block (a:=⟨g,2,none⟩) (hgrow2.block g hg hnm)).trans f2;have HP2:=hid (own_keep (w':=w2) HP.out fun q hq=>hgrow2.block q (HP.out.lt q hq).2 (fun e=>ne3 (hq.trans e)));have HG2:=hid hgrow2;have HM2:=hid hown2;clear hown2 hgrow2 hnm))
   | (at_builtin;go_loud (refine wpList_append_src rfl _ _ _ rfl base 3 i0 (.int .i64 0) 1 8 Tryz.underlying234 hi hz0 hz1 hz2 rfl (by decide) (.slice ap n cp) n _ rfl (HP2.out.alloc _) (some ⟨w2.heap.size,0,none⟩) 1 1 [.int .i64 (lastP b k n:Int)] rfl (src_new1 w2 3 _ rfl rfl rfl) (by intro u hu;simp at hu;subst hu;rfl) (by simp only[maxLen];omega) (by omega) (by simp;omega) ?_;intro v' w1 hown1 hgrow1 hat1;obtain⟨a',c',rfl⟩:=own_form hown1;have G:=fun q (hq:q<w2.heap.size) (hne:(Value.slice ap n cp).ownBlock≠some q)=>(hgrow1.block q (by simp;omega) (fun e=>hne e.symm)).trans (Below.heap_alloc w2 _ q hq);have g2:=(World.frozen?_of_block (a:=⟨g,2,none⟩) (G g hg2 ne2)).trans f2b;have e2:=(World.cell?_of_block (a:=⟨g,2,none⟩) (G g hg2 ne2)).trans c2b;have hz1:g<w1.heap.size:=Nat.lt_of_lt_of_le hg2 (Nat.le_trans (by simp) hgrow1.size);have HG:=hid hgrow1;have HO:=hid hown1;have HAT:=hid hat1;have HGG:=hid G;clear hgrow1 hown1 hat1 G)))
  have hst:=ch_next HH.out hn ((Tch.of_grown HG2.out).mono fun q _ e=>(Option.some.inj e).symm) ⟨_,HM2.out,HD.out.some HM.out.isMap HK.out⟩ (by rw[HPN.out];exact HO.out) HG.out HAT.out
  have HST:=hid hst;clear hst
  go_ret
  exact⟨rfl,HST.out⟩
theorem ChStep.trans{w w1 w2:World}{g mb base:Nat}{b:List UInt8}{n m k:Nat}{ab:Option Addr}{cb:Nat}{ap a1:Option Addr}{cp c1:Nat}(h:Tch (fun q=>q=g∨q=mb∨(Value.slice ap n cp).ownBlock=some q) w w1)
  (ho:(Value.slice a1 m c1).ownBlock=(Value.slice ap n cp).ownBlock∨∃q,(Value.slice a1 m c1).ownBlock=some q∧w.heap.size≤q) (k':ChStep w1 g mb base b m k ab cb a1 c1 w2):ChStep w g mb base b n k ab cb ap cp w2:=by
 obtain⟨a2,c2,h1,h2,h3⟩:=k'
 refine⟨a2,c2,h1,h.trans h2 fun q hq e=> ?_,?_⟩
 ·rcases e with e | e | e
  ·exact .inl e
  ·exact .inr (.inl e)
  ·rcases ho with ho | ⟨q',hq',hlt⟩
   ·exact .inr (.inr (ho ▸ e))
   ·rw[hq'] at e;have:=Option.some.inj e;omega
 ·rcases h3 with h3 | ⟨q',hq',hlt⟩
  ·rcases ho with ho | ⟨q',hq',hlt⟩
   ·exact .inl (h3.trans ho)
   ·exact .inr ⟨q',h3.trans hq',hlt⟩
  ·exact .inr ⟨q',hq',Nat.le_trans h.size hlt⟩
theorem ChStep.refl{w:World}{g mb base:Nat}{b:List UInt8}{n:Nat}{ab:Option Addr}{cb:Nat}{ap:Option Addr}{cp:Nat}(h:ChAt w g mb base b n ab cb ap cp):ChStep w g mb base b n n ab cb ap cp w:=⟨ap,cp,h,Tch.refl _ _,.inl rfl⟩
def AddToPost(w:World)(g mb base:Nat)(b:List UInt8)(n m:Nat)(ab:Option Addr)(cb:Nat)(ap:Option Addr)(cp:Nat)(r:Ending)(w':World):Prop:=r=.returned (.int .i64 ((m:Int)-n))∧ChStep w g mb base b n m ab cb ap cp w'
theorem chain_addTo(w:World){g mb base:Nat}{b:List UInt8}{n:Nat}{ab:Option Addr}{cb:Nat}{ap:Option Addr}{cp:Nat}(h:ChAt w g mb base b n ab cb ap cp)(m:Nat)(hn:n≤m)(hm:m≤b.length):
  Calls Tryz.prog 419 #[.pointer (some ⟨g,0,none⟩),.int .i64 m] w (AddToPost w g mb base b n m ab cb ap cp):=by
 have hlen:=h.len
 have HS:=hid (ChStep.refl h)
 clear h
 go_enter Tryz.func419,Tryz.ntmps419
 go_wp2_with fail
 go_loopw [5] (fun i wr=>∃k:Nat,n+k≤m∧i=.int .i64 k∧Hid (ChStep w g mb base b n (n+k) ab cb ap cp wr)) (fun i _=>m-(intOf i).toNat)
 case atStart=>exact ⟨0,hn,rfl,HS⟩
 case round=>
  obtain⟨k,hk,rfl,hst⟩:=hrel
  clear HS
  obtain⟨a1,c1,h1,h2,h3⟩:=hst.out
  have HA:=hid (chain_added wr h1)
  have HT:=hid h2;have HO:=hid h3;have H1:=hid h1
  clear h1 h2 h3
  by_cases hlt:n+k<m
  ·have hAdd:=hid (chain_add wr H1.out (by omega))
   have d1:decide (((n+k:Nat):Int)<(m:Int))=true:=by simp;omega
   have d2:decide ((n:Int)+(k:Int)<(m:Int))=true:=by simp;omega
   have d3:decide (n+k<m)=true:=by simp;omega
   go_wp2_with fail
   refine HA.out.mono ?_
   rintro r w1 ⟨rfl,rfl⟩
   go_wp2_with fail
   refine hAdd.out.mono ?_
   rintro r w1 ⟨rfl,hs1⟩
   have HS1:=hid (ChStep.trans HT.out HO.out hs1)
   clear hs1
   go_wp2
   go_roundw
   case rel=>first | exact⟨k+1,by omega,by go_num,HS1⟩ | ((repeat apply Exists.intro);refine⟨?_,?_⟩;rotate_left;rfl;exact⟨k+1,by omega,by go_num,HS1⟩)
   case measure=>simp [intOf];omega
  ·obtain rfl:m=n+k:=by omega
   have d1:decide (((n+k:Nat):Int)<((n+k:Nat):Int))=false:=by simp
   have d2:decide ((n:Int)+(k:Int)<(n:Int)+(k:Int))=false:=by simp
   have hff:Hid (((n+k:Nat):Int)-(n:Int)=(k:Int)):=hid (by omega)
   go_wp2_with fail
   refine HA.out.mono ?_
   rintro r w1 ⟨rfl,rfl⟩
   go_wp2
   go_ret
   exact⟨by rw[hff.out];rfl,hst.out⟩
end Go.Proofs.YtmioakocnebceaaGreat
namespace Go.Bs
open Go.RowKit
def noDefer(o:Oper):Bool:=match o.op with | .defer _=>false | _=>true
section
variable {F:Fence} {n:Nat} {P:Program} {ops:Array Oper} {md:Region.Mode} {C:World→Prop}
theorem noDefer_spec{o:Oper}(h:noDefer o=true):∀c,o.op≠ .defer c:=fun c e=>by
 unfold noDefer at h
 rw[e] at h
 cases h
theorem wpIn_of_quiet_r{o:Oper}{a:Act}{K:Act→Prop}{K':Act→World→Prop}{Q':Exit→Act→World→Prop}{w:World}(hd:noDefer o=true)(hw:C w)(h:∀a w',C w'→K a→K' a w')
  (ha:o.askedIn F P a C) (hh:o.quietIn F n P a C K):o.wpIn F n P a w K' Q':=by
 obtain⟨v,h1,h2⟩:=hh
 have h3:=h1 w hw
 unfold Oper.quietAtIn at h3
 unfold Oper.wpIn
 refine⟨ha w hw,?_⟩
 rw[Oper.semAt_eq _ _ _ (noDefer_spec hd)]
 generalize (execOp a.eval o).run P w=r at*
 cases r with
 | ok x w'=>
  cases x<;>simp only[Oper.quietUponIn] at h3<;>simp only[Oper.uponIn]
  case value u=>
   obtain⟨e1,e2⟩:=h3
   rw[e1,e2]
   exact h _ _ hw h2
  case skip=>
   obtain⟨e1,e2⟩:=h3
   rw[e1,←e2]
   exact h _ _ hw h2
  case enter f args=>
   obtain⟨e1,hd,hc⟩:=h3
   rw[e1]
   exact⟨hd,hc.mono fun e w'' ⟨he,hw''⟩=>by subst he;exact h _ _ hw'' h2⟩
 | halt x w'=>simp only[Oper.quietUponIn] at h3
theorem wpOpIn_of_qOpIn_r{i:Nat}{a:Act}{K:Act→Prop}{K':Act→World→Prop}{Q':Exit→Act→World→Prop}{w:World}(hd:ops.all noDefer=true)(hC:C w)(h:∀a w',C w'→K a→K' a w')
  (hh:qOpIn F n P ops C i K a):wpOpIn F n P ops Q' i K' a w:=by
 unfold qOpIn at hh
 unfold wpOpIn
 split
 ·rename_i ho;simp only[ho] at hh;exact h _ _ hC hh
 ·rename_i o ho
  have hdo:noDefer o=true:=by
   have:=Array.all_eq_true'.1 hd o (Array.mem_of_getElem? ho)
   exact this
  simp only[ho] at hh
  obtain⟨ha,hh⟩:=hh
  split
  ·rename_i hw;simp only[hw,if_true] at hh;exact wpIn_of_quiet_r hdo hC h ha hh
  ·rename_i hw;simp only[hw] at hh;exact⟨ha w hC,h _ _ hC hh⟩
theorem wpAnyIn_of_quiet_r{Q:Act→Prop}{Q':Exit→Act→World→Prop}(hd:ops.all noDefer=true)(hQ:∀a w,C w→Q a→Q' .normal a w):∀(fuel:Nat) (listed:Array Bool) (a:Act) (w:World),C w→
  wpAnyQIn F n P md ops C Q fuel listed a→wpAnyIn F n P md ops Q' fuel listed a w
 | 0,_,_,_,hw,h=>⟨h.1,hQ _ _ hw h.2⟩
 | fuel+1,_,_,_,hw,h=>⟨fun h0=>hQ _ _ hw (h.1 h0),fun i hi=>wpOpIn_of_qOpIn_r hd hw (fun a' w' hw'=>wpAnyIn_of_quiet_r hd hQ fuel _ a' w' hw') (h.2 i hi)⟩
theorem wpIn_region_round{id:Nat}{Q:Exit→Act→World→Prop}{a:Act}{w:World}{l:List Oper}(C:World→Prop)(hm:P.follows .mixedOrders=true)(hd:l.toArray.all noDefer=true)(hB:Region.lexB .any l.toArray=true)(hC:C w.drew)
  (h:wpQuietIn F n P l.toArray C (fun a'=>∀w',C w'→Q .normal a' w') l a):(Code.region id l.toArray true).wpIn F n P Q a w:=by
 simp only[Region.lexB,Bool.and_eq_true] at hB
 refine wpIn_region_any hm (wpAnyIn_of_quiet_r (Q:=fun a'=>∀w',C w'→Q .normal a' w') hd (fun _ w' hw' h=>h w' hw') _ _ _ _ hC ?_)
 have:=wpAnyQIn_lex (F:=F) (n:=n) (C:=C) (md:=.any) hB.1 l 0 (Array.replicate l.toArray.size false) a (by simp) (by simpa using hB.2) h
 simpa using this
theorem wpIn_region_rlater{id:Nat}{Q:Exit→Act→World→Prop}{a:Act}{w:World}{l:List Oper}(hm:P.follows .mixedOrders=true)(hd:l.toArray.all noDefer=true)(hB:Region.lexB .any l.toArray=true)
  (h:wpQuietIn F n P l.toArray (fun w'=>∃s:Later w,w'=s.at_) (fun a'=>∀w',(∃s:Later w,w'=s.at_)→Q .normal a' w') l a):(Code.region id l.toArray true).wpIn F n P Q a w:=
 wpIn_region_round _ hm hd hB ⟨⟨w.drew,(Below.refl _ _).drew⟩,rfl⟩ h
theorem wpIn_region_rdrawn{id:Nat}{Q:Exit→Act→World→Prop}{a:Act}{w:World}{l:List Oper}(hm:P.follows .mixedOrders=true)(hd:l.toArray.all noDefer=true)(hB:Region.lexB .any l.toArray=true)
  (h:wpQuietIn F n P l.toArray (fun w'=>∃n,w'=w.drewN n) (fun a'=>∀w',(∃n,w'=w.drewN n)→Q .normal a' w') l a):(Code.region id l.toArray true).wpIn F n P Q a w:=
 wpIn_region_round _ hm hd hB ⟨1,rfl⟩ h
theorem wide_d{p:Prop}(h:Fence.wide.depth.isSome=true):p:=by simp[Fence.wide] at h
theorem laterIn_of{n:Nat}{f:FuncId}{args:Array Value}{w:World}{s:Later w}{v:Value}{l:Nat}
  (h:Calls P f args s.at_ fun e w'=>e=.returned v∧Below s.at_.heap.size s.at_ w'):CallsIn (Fence.wide.inRound l) n P f args s.at_ fun e w''=>e=.returned v∧∃s':Later w,w''=s'.at_:=
 CallsIn.inRound l (callsIn_wide.2 (later_of h))
theorem wp_region_still_drew{id:Nat}{Q:Exit→Act→World→Prop}{a:Act}{w:World}{l:List Oper}(n:Nat)(hm:P.follows .mixedOrders=true)(hB:Region.lexTailB .any l.toArray n=true)
  (h:wpStill P l.toArray w.drew (fun a'=>wpList P l.toArray Q (l.drop n) a' w.drew) (l.take n) a):(Code.region id l.toArray true).wp P Q a w:=wp_region_still_tail n hm hB h
theorem wpIn_world{c:Code}{Q:Exit→Act→World→Prop}{a:Act}{w:World}(G:World→Prop)(hG:G w)(h:∀W,G W→c.wpIn F n P Q a W):c.wpIn F n P Q a w:=h w hG
theorem keepsFrom_tch{B:Nat}{G:Nat→Prop}{W W':World}(h:Tch G W W')(hF:∀q,G q→q<B):KeepsFrom B W W':=
 ⟨h.size,fun k o hB hk _=>(h.block k (Array.getElem?_eq_some_iff.1 hk).1 (fun e=>by have:=hF k e;omega)).trans hk⟩
end
end Go.Bs
namespace Go.Proofs.YtmioakocnebceaaGreat
open Go.RowKit Go.Bs Go.Maps Go.Shelf
def plcF(b:List UInt8)(k m:Nat):Nat→List (Fin m)
 | 0=>[]
 | j+1=>if h:j<m then (if keyAt b j=some k then ⟨j,h⟩::plcF b k m j else plcF b k m j) else plcF b k m j
theorem plcF_none(b:List UInt8)(k m:Nat):∀j,lastP b k j=0→plcF b k m j=[]
 | 0,_=>rfl
 | j+1,h=>by
  simp only[lastP] at h
  split at h
  ·omega
  ·rename_i hk
   have ih:=plcF_none b k m j h
   simp only[plcF]
   split
   ·first | exact ih | (rw[if_neg hk];exact ih)
   ·exact ih
theorem plcF_some(b:List UInt8)(k m:Nat):∀(j i:Nat) (hi:i<m),lastP b k j=i+1→plcF b k m j=⟨i,hi⟩::plcF b k m i
 | 0,i,hi,h=>by simp[lastP] at h
 | j+1,i,hi,h=>by
  simp only[lastP] at h
  split at h
  ·rename_i hk
   obtain rfl:j=i:=by omega
   simp only[plcF]
   rw[dif_pos hi,if_pos hk]
  ·rename_i hk
   have ih:=plcF_some b k m j i hi h
   simp only[plcF]
   split
   ·first | exact ih | (rw[if_neg hk];exact ih)
   ·exact ih
def near(p:Nat)(q:Fin p):Bool:=decide (p-q.val≤65536)
def placesOf(b:List UInt8)(p:Nat):List (Fin p):=match keyAt b p with | none=>[] | some k=>(plcF b k p p).takeWhile (near p)
theorem lastP_next(b:List UInt8)(k j i:Nat)(h:lastP b k j=i+1):keyAt b i=some k∧i<j:=by
 have h1:=lastP_key b k j (by omega)
 have h2:=lastP_le b k j
 rw[h] at h1 h2
 exact⟨by simpa using h1,by omega⟩
theorem prevN_next{b:List UInt8}{k i:Nat}(h:keyAt b i=some k):prevN b i=lastP b k i:=by unfold prevN;rw[h]
theorem own_row_at{w:World}{base:Nat}{e:TypeId}{v:Value}{n:Nat}{xs:List Value}(h:w.ownsRow base e 1 v n xs){i:Nat}{u:Value}(hi:xs[i]? =some u)(hn:n=xs.length):∃gp c,v=.slice (some ⟨gp,0,none⟩) n c∧w.cell? ⟨gp,i,none⟩=some u∧gp<w.heap.size:=by
 have hlt:=(List.getElem?_eq_some_iff.1 hi).1
 rcases h.2 with ⟨_,h0⟩ | ⟨g,cap,cur,h1,h2,h3,h4,h5,h6,h7⟩
 ·omega
 ·refine⟨g,cap,h1,?_,(Array.getElem?_eq_some_iff.1 h3).1⟩
  rw[Blk.cell h3 i]
  have e1:cur[i]? =(cur.toList.take (n*1))[i]? :=by
   rw[List.getElem?_take,if_pos (by omega)];simp
  rw[e1,h7];exact hi
theorem prevs_at{b:List UInt8}{n i:Nat}(h:i<n):(prevs b n)[i]? =some (.int .i64 (prevN b i:Int)):=by simp[prevs,h]
def KpC(Q:Nat→Prop)(w w':World):Prop:=∀q,Q q→w'.heap[q]? =w.heap[q]?
theorem KpC.trans{Q:Nat→Prop}{w w' w'':World}(h:KpC Q w w')(k:KpC Q w' w''):KpC Q w w'':=fun q hq=>(k q hq).trans (h q hq)
theorem drew_grown(w:World)(n:Nat):w.grownBy (w.drewN n) none:=⟨rfl,rfl,rfl,Nat.le_refl _,fun _ _ _=>rfl⟩
theorem places_stops(w:World){g mb base:Nat}{b:List UInt8}{p:Nat}{ab:Option Addr}{cb:Nat}{ap:Option Addr}{cp:Nat}{bc ba n:Nat}(h:ChAt w g mb base b p ab cb ap cp)(hc:Blk w bc 460 #[.pointer (some ⟨g,0,none⟩)])(ha:Blk w ba 3 #[.int .i64 (p:Int)]):
  SeqStopsK Fence.wide n Tryz.prog 426 #[.pointer (some ⟨bc,0,none⟩),.pointer (some ⟨ba,0,none⟩)] (fun x:Fin p=>#[.int .i64 (x.val:Int)]) (KpC fun q=>q=g∨q=mb∨(Value.slice ap p cp).ownBlock=some q∨q=bc∨q=ba)
   (fun xs=>xs=placesOf b p) (fun pre=>pre<+:placesOf b p) (placesOf b p).length w:=by
 intro l J Jx W hW hJ hJx hY h0
 have hlen:=h.len
 have hle:=h.le
 have hK0:KpC (fun q=>q=g∨q=mb∨(Value.slice ap p cp).ownBlock=some q∨q=bc∨q=ba) w W:=fun q hq=>by
  rcases hq with rfl | rfl | hq | rfl | rfl
  ·exact hW.block _ h.blk.lt
  ·obtain⟨D,hD,_⟩:=h.map;exact hW.block _ hD.lt
  ·exact hW.block _ (h.prev.lt _ hq).2
  ·exact hW.block _ hc.lt
  ·exact hW.block _ ha.lt
 have hkey:=fun (nq:Nat)=>chain_key b p ab b.length cb (W.drewN nq) (rBytes.mono (rBytes.keep h.bytes fun q hq=>hW.block q hq.1) fun q hq=>Nat.lt_of_lt_of_le hq.1 hW.size) hlen (by omega)
 have hg0:=h.blk;have hmap:=h.map;have hprev:=h.prev
 have HG0:=hid hg0;have HMAP:=hid hmap;have HPREV:=hid hprev;have HC:=hid hc;have HAA:=hid ha
 have HY:=hid hY;have HJ:=hid hJ;have HJX:=hid hJx
 have HWs:=hid hW
 have HKEY:=hid hkey
 clear h hg0 hmap hprev hc ha hY hJ hJx hW hkey
 have c1:W.cell? ⟨bc,0,none⟩=some (.pointer (some ⟨g,0,none⟩)):=(Blk.later HC.out HWs.out).cell 0
 have c2:W.cell? ⟨ba,0,none⟩=some (.int .i64 (p:Int)):=(Blk.later HAA.out HWs.out).cell 0
 have c3:W.cell? ⟨g,0,none⟩=some (.slice ab b.length cb):=(Blk.later HG0.out HWs.out).cell 0
 have c4:W.cell? ⟨g,1,none⟩=some (.map (some mb)):=(Blk.later HG0.out HWs.out).cell 1
 refine callsIn_of_wp Tryz.func426 rfl trivial ?_ rfl
 simp only[Tryz.ntmps426,List.size_toArray,List.length_cons,List.length_nil,Nat.reduceAdd,Nat.reduceSub,Array.replicate_succ,Array.replicate_zero,List.push_toArray,List.append_toArray,List.nil_append,List.cons_append]
 have hfw:∀f,Fence.wide.fn f=True:=fun _=>rfl
 gi_wp2
 refine wpIn_region_rdrawn (by kernel_rfl) (by kernel_rfl) (by kernel_rfl) ?_
 repeat (gi_big_quiet_step ((refine⟨wide_d,callsIn_wide.2 ((HKEY.out _).mono fun e w' ⟨he,hw⟩=>⟨he,_,hw.symm⟩)⟩)))
 refine wpQuietIn_nil ?_
 intro _ hw'
 obtain⟨nq,rfl⟩:=hw'
 have h1:Hid (J [] (W.drewN nq)):=hid (HJ.out [] W _ none h0 (drew_grown W nq) (fun r e=>by cases e))
 have hkv:Hid (keyV b p=match keyAt b p with | some k=>((k:Int),true) | none=>(0,false)):=hid rfl
 have hpo:Hid (placesOf b p=match keyAt b p with | none=>[] | some k=>(plcF b k p p).takeWhile (near p)):=hid rfl
 cases hk:keyAt b p with
 | none=>
  have hv:keyV b p=(0,false):=by rw[hkv.out,hk]
  have hp0:Hid (placesOf b p=[]):=hid (by rw[hpo.out,hk])
  rw[hv]
  clear hv hk hkv hpo
  gi_wp2
  refine bodyPost_ret (results_none rfl _ _ _) rfl ?_
  exact⟨⟨_,rfl⟩,.inl ⟨[],hp0.out.symm,h1.out⟩⟩
 | some k=>
  have hv:keyV b p=((k:Int),true):=by rw[hkv.out,hk]
  have hp0:Hid (placesOf b p=(plcF b k p p).takeWhile (near p)):=hid (by rw[hpo.out,hk])
  have hW:=hid (u32_wf (keyAt_lt hk))
  have hklt:=hid (keyAt_lt hk)
  rw[hv]
  clear hv hk hkv hpo
  obtain⟨D,hD,hL⟩:=HMAP.out
  have hD2:=hid (map_keep (w':=W.drewN nq) hD (HWs.out.block _ hD.lt))
  have HL:=hid hL
  clear hD hL
  gi_wp2_with (gi_at_lookup;go_loud (refine wpListIn_lookup_own_int _ rfl _ _ 468 rfl 178 3 .i64 lawU32 Tryz.underlying468 Tryz.underlying3 (zeroInt _) mb p D rfl hD2.out _ _ rfl (keyOf_int_mk Tryz.underlying178 hW.out) ?_;intro c hat hwc;have hc:c=(lastP b k p:Int):=(by have:=HL.out k hklt.out;rw[hat] at this;simpa using this);subst hc;clear hat hwc))
  gi_loopw [6] (fun kk wr=>∃(pre:List (Fin p)) (j:Nat),j≤p∧kk=.int .i64 (lastP b k j:Int)∧Hid (placesOf b p=pre++(plcF b k p j).takeWhile (near p))∧Hid (J pre wr)∧Hid (KpC (fun q=>q=g∨q=mb∨(Value.slice ap p cp).ownBlock=some q∨q=bc∨q=ba) w wr)) (fun kk _=>(intOf kk).toNat)
  case atStart=>exact ⟨[],p,Nat.le_refl _,rfl,hid (by rw[hp0.out];rfl),h1,hid (KpC.trans hK0 fun q hq=>rfl)⟩
  case round=>
   obtain⟨pre,j,hj,rfl,hx,hJs,hKs⟩:=hrel
   have hle2:=lastP_le b k j
   cases hlj:lastP b k j with
   | zero=>
    have hend:Hid (placesOf b p=pre):=hid (by rw[hx.out,plcF_none b k p j hlj];simp)
    clear hlj
    gi_wp2
    go_end0
    exact⟨⟨_,rfl⟩,.inl ⟨pre,hend.out.symm,hJs.out⟩⟩
   | succ i=>
    obtain⟨hki,hij⟩:=lastP_next b k j i hlj
    have hip:i<p:=by omega
    have hstep:(plcF b k p j).takeWhile (near p)=if near p ⟨i,hip⟩ then ⟨i,hip⟩::(plcF b k p i).takeWhile (near p) else []:=by
     rw[plcF_some b k p j i hip hlj,List.takeWhile_cons]
    have hpn:=prevN_next hki
    have HS:=hid hstep;have HPN:=hid hpn
    clear hlj hki hstep hpn
    have B1:=(hKs.out bc (.inr (.inr (.inr (.inl rfl))))).trans HC.out
    have B2:=(hKs.out ba (.inr (.inr (.inr (.inr rfl))))).trans HAA.out
    have r1:wr.cell? ⟨bc,0,none⟩=some (.pointer (some ⟨g,0,none⟩)):=Blk.cell B1 0
    have r2:wr.cell? ⟨ba,0,none⟩=some (.int .i64 (p:Int)):=Blk.cell B2 0
    clear B1 B2
    have t0:(0:Int)<((i+1:Nat):Int):=by omega
    by_cases hnr:p-i≤65536
    ·have hn2:near p ⟨i,hip⟩=true:=by simp[near,hnr]
     have hx2:Hid (placesOf b p=pre++⟨i,hip⟩::(plcF b k p i).takeWhile (near p)):=hid (by rw[hx.out,HS.out,hn2,if_pos rfl])
     obtain⟨fn,tmps,assign,body,hy,hR⟩:=HY.out pre ⟨i,hip⟩ wr hJs.out (by rw[hx2.out];simp)
     have d1:decide ((65536:Int)<(p:Int)-(i:Int))=false:=by simp;omega
     have d2:decide ((i:Int)<(p:Int))=true:=by simp;omega
     have d2':decide (i<p)=true:=by simp;omega
     dsimp only at hy
     have HR:=hid hR;clear hR hn2
     gi_wp2
     refine⟨wide_d,?_⟩
     refine HR.out.mono ?_
     rintro e W3 (⟨rfl,hJ3,hk3⟩ | ⟨rfl,hJx3⟩)
     ·have hK3:=KpC.trans hKs.out hk3
      have HJ3:=hid hJ3;have HK3:=hid hK3
      clear hJ3 hk3 hK3
      have B1:=(HK3.out bc (.inr (.inr (.inr (.inl rfl))))).trans HC.out
      have B3:=(HK3.out g (.inl rfl)).trans HG0.out
      obtain⟨gp,cp2,hvp,hcp,hgp⟩:=own_row_at HPREV.out (prevs_at (b:=b) hip) (prevs_length b p).symm
      simp only[Value.slice.injEq,true_and] at hvp
      obtain⟨rfl,rfl⟩:=hvp
      have q1:W3.cell? ⟨bc,0,none⟩=some (.pointer (some ⟨g,0,none⟩)):=Blk.cell B1 0
      have q3:W3.cell? ⟨g,2,none⟩=some (.slice (some ⟨gp,0,none⟩) p cp):=Blk.cell B3 2
      have q4:W3.cell? ⟨gp,i,none⟩=some (.int .i64 (prevN b i:Int)):=(World.cell?_of_block (a:=⟨gp,i,none⟩) (HK3.out gp (.inr (.inr (.inl rfl))))).trans hcp
      rw[HPN.out] at q4
      have i1:(i:Int)<(p:Int):=by omega
      have i2:(0:Int)≤(i:Int):=by omega
      clear hcp B1 B3
      gi_wp2
      go_roundw
      case rel=>exact ⟨pre++[⟨i,hip⟩],i,by omega,rfl,hid (by rw[hx2.out];simp),HJ3,HK3⟩
      case measure=>
       have:=lastP_le b k i
       simp[intOf];omega
     ·have HJX3:=hid hJx3;clear hJx3
      gi_wp2
      refine bodyPost_ret (results_none rfl _ _ _) rfl ?_
      exact⟨⟨_,rfl⟩,.inr ⟨pre++[⟨i,hip⟩],⟨(plcF b k p i).takeWhile (near p),by rw[hx2.out];simp⟩,HJX3.out⟩⟩
    ·have hn2:near p ⟨i,hip⟩=false:=by simp[near];omega
     have hend:Hid (placesOf b p=pre):=hid (by rw[hx.out,HS.out,hn2];simp)
     have d1:decide ((65536:Int)<(p:Int)-(i:Int))=true:=by simp;omega
     clear hn2
     gi_wp2
     refine bodyPost_ret (results_none rfl _ _ _) rfl ?_
     exact⟨⟨_,rfl⟩,.inl ⟨pre,hend.out.symm,hJs.out⟩⟩
open Go.RowKit Go.Bs
def stepB(b:List UInt8)(p:Nat)(s:Nat × Nat)(q:Fin p):Nat × Nat:=if s.2<mlen b p (p-q.val) then (p-q.val,mlen b p (p-q.val)) else s
def bestL(b:List UInt8)(p:Nat)(l:List (Fin p)):Nat × Nat:=l.foldl (stepB b p) (0,0)
theorem bestL_snoc(b:List UInt8)(p:Nat)(l:List (Fin p))(q:Fin p):bestL b p (l++[q])=stepB b p (bestL b p l) q:=by simp[bestL]
def takenR(s:Nat × Nat):Nat × Nat:=(if s.2<4 then 0 else s.1,if s.2<4 then 0 else s.2)
theorem plcF_mem(b:List UInt8)(k m:Nat):∀j,j≤m→∀q:Fin m,q∈plcF b k m j↔q.val<j∧keyAt b q.val=some k
 | 0,_,q=>by simp[plcF]
 | j+1,hj,q=>by
  have ih:=plcF_mem b k m j (by omega) q
  simp only[plcF]
  rw[dif_pos (by omega)]
  by_cases hk:keyAt b j=some k
  ·rw[if_pos hk,List.mem_cons,ih]
   constructor
   ·rintro (rfl | ⟨h1,h2⟩)
    ·exact⟨by simp,hk⟩
    ·exact⟨by omega,h2⟩
   ·rintro⟨h1,h2⟩
    by_cases e:q.val=j
    ·exact .inl (Fin.ext e)
    ·exact .inr ⟨by omega,h2⟩
  ·rw[if_neg hk,ih]
   constructor
   ·rintro⟨h1,h2⟩;exact⟨by omega,h2⟩
   ·rintro⟨h1,h2⟩
    refine⟨?_,h2⟩
    by_cases e:q.val=j
    ·rw[e] at h2;exact absurd h2 hk
    ·omega
theorem plcF_desc(b:List UInt8)(k m:Nat):∀j,j≤m→(plcF b k m j).Pairwise (fun x y=>y.val<x.val)
 | 0,_=>by simp[plcF]
 | j+1,hj=>by
  have ih:=plcF_desc b k m j (by omega)
  simp only[plcF]
  rw[dif_pos (by omega)]
  split
  ·refine List.pairwise_cons.2 ⟨fun q hq=> ?_,ih⟩
   exact ((plcF_mem b k m j (by omega) q).1 hq).1
  ·exact ih
theorem desc_take{p:Nat}:∀{l:List (Fin p)},l.Pairwise (fun x y=>y.val<x.val)→∀q,q∈l→near p q=true→q∈l.takeWhile (near p)
 | [],_,q,h,_=>by cases h
 | x::l,hd,q,h,hn=>by
  obtain⟨h1,h2⟩:=List.pairwise_cons.1 hd
  have hx:near p x=true:=by
   rcases List.mem_cons.1 h with rfl | h
   ·exact hn
   ·have:=h1 q h
    simp only[near,decide_eq_true_eq] at hn ⊢
    omega
  rw[List.takeWhile_cons,if_pos hx]
  rcases List.mem_cons.1 h with rfl | h
  ·exact List.mem_cons_self ..
  ·exact List.mem_cons_of_mem _ (desc_take h2 q h hn)
theorem takeWhile_near{α:Type}{f:α→Bool}:∀{l:List α} {q:α},q∈l.takeWhile f→f q=true
 | [],q,h=>by simp at h
 | x::l,q,h=>by
  rw[List.takeWhile_cons] at h
  split at h
  ·rename_i hx
   rcases List.mem_cons.1 h with e | h
   ·rw[e];exact hx
   ·exact takeWhile_near h
  ·cases h
theorem placesOf_desc(b:List UInt8)(p:Nat):(placesOf b p).Pairwise (fun x y=>y.val<x.val):=by
 unfold placesOf
 split
 ·exact List.Pairwise.nil
 ·exact (plcF_desc b _ p p (Nat.le_refl _)).sublist (List.takeWhile_sublist _)
theorem placesOf_mem{b:List UInt8}{p:Nat}(q:Fin p):q∈placesOf b p↔(∃k,keyAt b p=some k∧keyAt b q.val=some k)∧p-q.val≤65536:=by
 unfold placesOf
 cases hk:keyAt b p with
 | none=>simp
 | some k=>
  simp only[Option.some.injEq,exists_eq_left']
  constructor
  ·intro h
   have h1:=(plcF_mem b k p p (Nat.le_refl _) q).1 ((List.takeWhile_sublist _).subset h)
   have h2:near p q=true:=takeWhile_near h
   exact⟨h1.2,by simpa [near] using h2⟩
  ·rintro⟨h1,h2⟩
   exact desc_take (plcF_desc b k p p (Nat.le_refl _)) q ((plcF_mem b k p p (Nat.le_refl _) q).2 ⟨q.isLt,h1⟩) (by simp[near,h2])
theorem mlen_of_key{b:List UInt8}{p k:Nat}{q:Fin p}(h1:keyAt b p=some k)(h2:keyAt b q.val=some k):4≤mlen b p (p-q.val):=by
 have hq:=q.isLt
 have hp:p+4≤b.length:=by
  rcases Nat.lt_or_ge b.length (p+4) with h | h
  ·rw[keyV_none h] at h1;cases h1
  ·exact h
 rw[keyV_some hp] at h1
 rw[keyV_some (show q.val+4≤b.length by omega)] at h2
 simp only[Option.some.injEq] at h1 h2
 have a0:=b[p].toNat_lt;have a1:=b[p+1].toNat_lt;have a2:=b[p+2].toNat_lt;have a3:=b[p+3].toNat_lt
 have c0:=b[q.val].toNat_lt;have c1:=b[q.val+1].toNat_lt;have c2:=b[q.val+2].toNat_lt;have c3:=b[q.val+3].toNat_lt
 have e0:b[p]=b[q.val]:=UInt8.toNat_inj.1 (by omega)
 have e1:b[p+1]=b[q.val+1]:=UInt8.toNat_inj.1 (by omega)
 have e2:b[p+2]=b[q.val+2]:=UInt8.toNat_inj.1 (by omega)
 have e3:b[p+3]=b[q.val+3]:=UInt8.toNat_inj.1 (by omega)
 refine mlen_ge (by omega) (by omega) (by omega) fun j hj=>⟨by omega,?_⟩
 rw[show p+j-(p-q.val)=q.val+j by omega]
 rw[List.getElem?_eq_getElem (show p+j<b.length by omega),List.getElem?_eq_getElem (show q.val+j<b.length by omega)]
 have hj4:j=0∨j=1∨j=2∨j=3:=by omega
 rcases hj4 with rfl | rfl | rfl | rfl
 ·exact congrArg some e0
 ·exact congrArg some e1
 ·exact congrArg some e2
 ·exact congrArg some e3
theorem key_of_mlen{b:List UInt8}{p o:Nat}(h:4≤mlen b p o):∃k,keyAt b p=some k∧keyAt b (p-o)=some k:=by
 obtain⟨h1,h2,h3,_⟩:=mlen_same (show 3<mlen b p o by omega)
 have hs:=fun j (hj:j<4)=>(mlen_same (show j<mlen b p o by omega)).2.2.2
 have e:∀j,j<4→b[p+j]? =b[p-o+j]? :=fun j hj=>by
  have:=hs j hj
  rwa [show p+j-o=p-o+j by omega] at this
 refine⟨_,keyV_some (by omega),?_⟩
 have:=keyV_some (b:=b) (p:=p) (by omega)
 rw[←this]
 unfold keyAt
 have g0:=e 0 (by omega)
 simp only[Nat.add_zero] at g0
 rw[g0,e 1 (by omega),e 2 (by omega),e 3 (by omega)]
structure Found(b:List UInt8)(p:Nat)(pre:List (Fin p))(s:Nat × Nat):Prop where
 all:∀q∈pre,mlen b p (p-q.val)≤s.2
 is:pre=[]∧s=(0,0)∨∃q0∈pre,s.1=p-q0.val∧s.2=mlen b p (p-q0.val)∧∀q∈pre,q0.val<q.val→mlen b p (p-q.val)<s.2
theorem found_all{b:List UInt8}{p:Nat}:∀(r pre:List (Fin p)) (s:Nat × Nat),(pre++r).Pairwise (fun x y=>y.val<x.val)→(∀q∈pre++r,4≤mlen b p (p-q.val))→Found b p pre s→Found b p (pre++r) (r.foldl (stepB b p) s)
 | [],pre,s,_,_,h=>by simpa using h
 | q::r,pre,s,hd,hm,h=>by
  have e:pre++q::r=(pre++[q])++r:=by simp
  rw[e] at hd hm ⊢
  rw[List.foldl_cons]
  refine found_all r (pre++[q]) _ hd hm ?_
  have hlt:∀x∈pre,q.val<x.val:=fun x hx=>by
   have:=(List.pairwise_append.1 hd).1
   exact (List.pairwise_append.1 this).2.2 x hx q (by simp)
  have h4:=hm q (by simp)
  unfold stepB
  by_cases hs:s.2<mlen b p (p-q.val)
  ·rw[if_pos hs]
   refine⟨fun x hx=> ?_,.inr ⟨q,by simp,rfl,rfl,fun x hx hlt'=> ?_⟩⟩
   ·rcases List.mem_append.1 hx with hx | hx
    ·have:=h.all x hx
     show _≤mlen b p (p-q.val)
     omega
    ·simp at hx;subst hx;exact Nat.le_refl _
   ·rcases List.mem_append.1 hx with hx | hx
    ·have:=h.all x hx
     show _<mlen b p (p-q.val)
     omega
    ·simp at hx;subst hx;omega
  ·rw[if_neg hs]
   rcases h.is with ⟨rfl,rfl⟩ | ⟨q0,hq0,h1,h2,h3⟩
   ·simp only at hs;omega
   ·refine⟨fun x hx=> ?_,.inr ⟨q0,by simp[hq0],h1,h2,fun x hx hlt'=> ?_⟩⟩
    ·rcases List.mem_append.1 hx with hx | hx
     ·exact h.all x hx
     ·simp at hx;subst hx;omega
    ·rcases List.mem_append.1 hx with hx | hx
     ·exact h3 x hx hlt'
     ·simp at hx;subst hx;have:=hlt q0 hq0;omega
theorem found_pre{b:List UInt8}{p:Nat}{pre:List (Fin p)}(h:pre<+:placesOf b p):Found b p pre (bestL b p pre):=by
 have:=found_all (b:=b) pre [] (0,0) (by
  simp only[List.nil_append]
  exact (placesOf_desc b p).sublist h.sublist) (fun q hq=>by
   simp only[List.nil_append] at hq
   obtain⟨⟨k,h1,h2⟩,_⟩:=(placesOf_mem q).1 (h.subset hq)
   exact mlen_of_key h1 h2) ⟨fun q hq=>(by cases hq),.inl ⟨rfl,rfl⟩⟩
 simpa [bestL] using this
theorem few{b:List UInt8}{p j:Nat}(h1:1≤j)(h2:j≤reach p)(h:∀q:Fin p,q∈placesOf b p→q.val≠p-j):mlen b p j<4:=by
 rcases Nat.lt_or_ge (mlen b p j) 4 with h' | h'
 ·exact h'
 ·exfalso
  unfold reach at h2
  obtain⟨k,g1,g2⟩:=key_of_mlen h'
  exact h ⟨p-j,by omega⟩ ((placesOf_mem _).2 ⟨⟨k,g1,g2⟩,by simp only;omega⟩) rfl
theorem best_done(b:List UInt8)(p:Nat):takenR (bestL b p (placesOf b p))=bestR b p:=by
 have hf:=found_pre (List.prefix_refl (placesOf b p))
 rcases hf.is with ⟨h1,h2⟩ | ⟨q0,hq0,h1,h2,h3⟩
 ·have hn:bestR b p=(0,0):=bestR_none fun j j1 j2=>few j1 j2 fun q hq=>(by rw[h1] at hq;cases hq)
  rw[hn,h2];rfl
 ·obtain⟨⟨k,g1,g2⟩,g3⟩:=(placesOf_mem q0).1 hq0
  have h4:=mlen_of_key g1 g2
  have hq:=q0.isLt
  have:bestR b p=(p-q0.val,mlen b p (p-q0.val)):=by
   refine bestR_is (by omega) (by unfold reach;omega) h4 rfl (fun j j1 j2=> ?_) (fun j j1 j2=> ?_)
   ·by_cases hx:∃q:Fin p,q∈placesOf b p∧q.val=p-j
    ·obtain⟨q,hq1,hq2⟩:=hx
     have:=hf.all q hq1
     rw[h2,hq2,show p-(p-j)=j by unfold reach at j2;omega] at this
     exact this
    ·have:=few (b:=b) j1 j2 fun q hq1 hq2=>hx ⟨q,hq1,hq2⟩
     omega
   ·by_cases hx:∃q:Fin p,q∈placesOf b p∧q.val=p-j
    ·obtain⟨q,hq1,hq2⟩:=hx
     have:=h3 q hq1 (by omega)
     rw[h2,hq2,show p-(p-j)=j by omega] at this
     exact this
    ·have:=few (b:=b) j1 (by unfold reach;omega) fun q hq1 hq2=>hx ⟨q,hq1,hq2⟩
     omega
  rw[this]
  unfold takenR
  rw[h2,h1,if_neg (by omega),if_neg (by omega)]
theorem best_stop{b:List UInt8}{p:Nat}{pre:List (Fin p)}(h:pre<+:placesOf b p)(hp:p<b.length)(he:p+(bestL b p pre).2=b.length):takenR (bestL b p pre)=bestR b p:=by
 have hf:=found_pre h
 rcases hf.is with ⟨h1,h2⟩ | ⟨q0,hq0,h1,h2,h3⟩
 ·rw[h2] at he;simp only at he;omega
 ·obtain⟨⟨k,g1,g2⟩,g3⟩:=(placesOf_mem q0).1 (h.subset hq0)
  have h4:=mlen_of_key g1 g2
  have hq:=q0.isLt
  have:bestR b p=(p-q0.val,mlen b p (p-q0.val)):=by
   refine bestR_is (by omega) (by unfold reach;omega) h4 rfl (fun j j1 j2=> ?_) (fun j j1 j2=> ?_)
   ·have:=mlen_le b p j
    rw[←h2];omega
   ·by_cases hx:∃q:Fin p,q∈placesOf b p∧q.val=p-j
    ·obtain⟨q,hq1,hq2⟩:=hx
     have hin:q∈pre:=by
      obtain⟨r,hr⟩:=h
      rw[←hr] at hq1
      rcases List.mem_append.1 hq1 with h' | h'
      ·exact h'
      ·have hd:=placesOf_desc b p
       rw[←hr] at hd
       have:=(List.pairwise_append.1 hd).2.2 q0 hq0 q h'
       omega
     have:=h3 q hin (by omega)
     rw[h2,hq2,show p-(p-j)=j by omega] at this
     exact this
    ·have:=few (b:=b) j1 (by unfold reach;omega) fun q hq1 hq2=>hx ⟨q,hq1,hq2⟩
     omega
  rw[this]
  unfold takenR
  rw[h2,h1,if_neg (by omega),if_neg (by omega)]
theorem bestL_bound(b:List UInt8)(p:Nat)(pre:List (Fin p)):(bestL b p pre).1≤p∧(bestL b p pre).2≤b.length-p:=by
 unfold bestL
 have:∀(l:List (Fin p)) (s:Nat × Nat),s.1≤p∧s.2≤b.length-p→(l.foldl (stepB b p) s).1≤p∧(l.foldl (stepB b p) s).2≤b.length-p:=by
  intro l
  induction l with
  | nil=>intro s h;exact h
  | cons q l ih=>
   intro s h
   rw[List.foldl_cons]
   refine ih _ ?_
   unfold stepB
   split
   ·exact⟨by simp only;omega,mlen_le b p _⟩
   ·exact h
 exact this pre (0,0) ⟨Nat.zero_le _,Nat.zero_le _⟩
attribute [local go_sem] Oper.semAt_some
structure SkAt(w:World)(gs g mb base lo hi:Nat)(b:List UInt8)(n:Nat)(sa:Option Addr)(sc:Nat)(ab:Option Addr)(cb:Nat)(ap:Option Addr)(cp:Nat):Prop where
 blk:∃t:Int,Blk w gs 463 #[.slice sa b.length sc,.pointer (some ⟨g,0,none⟩),.int .i64 t]
 bytes:rBytes.r (fun q=>(lo≤q∧q<hi)∧q≠gs∧q≠g∧q≠mb∧(Value.slice ap n cp).ownBlock≠some q) w [.slice sa b.length sc] b
 ch:ChAt w g mb base b n ab cb ap cp
 bytes2:rBytes.r (fun q=>(lo≤q∧q<hi)∧q≠gs∧q≠g∧q≠mb∧(Value.slice ap n cp).ownBlock≠some q) w [.slice ab b.length cb] b
 ne1:gs≠g
 ne2:gs≠mb
 ne3:(Value.slice ap n cp).ownBlock≠some gs
 top:hi≤w.heap.size
def SkStep(w:World)(gs g mb base lo hi:Nat)(b:List UInt8)(n n':Nat)(sa:Option Addr)(sc:Nat)(ab:Option Addr)(cb:Nat)(ap:Option Addr)(cp:Nat)(w':World):Prop:=
 ∃ap' cp',SkAt w' gs g mb base lo hi b n' sa sc ab cb ap' cp'∧Tch (fun q=>q=gs∨q=g∨q=mb∨(Value.slice ap n cp).ownBlock=some q) w w'∧((Value.slice ap' n' cp').ownBlock=(Value.slice ap n cp).ownBlock∨∃q,(Value.slice ap' n' cp').ownBlock=some q∧w.heap.size≤q)
def BestPost(w:World)(gs g mb base lo hi:Nat)(b:List UInt8)(n p:Nat)(sa:Option Addr)(sc:Nat)(ab:Option Addr)(cb:Nat)(ap:Option Addr)(cp:Nat)(r:Ending)(w':World):Prop:=
 r=.returned (.tuple #[.int .i64 ((bestR b p).1:Int),.int .i64 ((bestR b p).2:Int)])∧SkStep w gs g mb base lo hi b n p sa sc ab cb ap cp w'
theorem ChAt.later{w w':World}{g mb base:Nat}{b:List UInt8}{n:Nat}{ab:Option Addr}{cb:Nat}{ap:Option Addr}{cp:Nat}(h:ChAt w g mb base b n ab cb ap cp)(hb:Below w.heap.size w w'):ChAt w' g mb base b n ab cb ap cp:=by
 have hs:=hb.size
 obtain⟨D,hD,hL⟩:=h.map
 exact⟨h.blk.later hb,rBytes.mono (rBytes.keep h.bytes fun q hq=>hb.block q hq.1) fun q hq=>⟨by omega,hq.2⟩,⟨D,map_keep hD (hb.block _ hD.lt),hL⟩,own_keep h.prev fun q hq=>hb.block q (h.prev.lt q hq).2,h.ne1,h.ne2,h.ne3,h.lo,h.le,h.len⟩
theorem SkAt.later{w w':World}{gs g mb base lo hi:Nat}{b:List UInt8}{n:Nat}{sa:Option Addr}{sc:Nat}{ab:Option Addr}{cb:Nat}{ap:Option Addr}{cp:Nat}(h:SkAt w gs g mb base lo hi b n sa sc ab cb ap cp)(hb:Below w.heap.size w w'):SkAt w' gs g mb base lo hi b n sa sc ab cb ap cp:=by
 have hs:=hb.size
 obtain⟨t,ht⟩:=h.blk
 exact⟨⟨t,ht.later hb⟩,rBytes.keep h.bytes fun q hq=>hb.block q (Nat.lt_of_lt_of_le hq.1.2 h.top),h.ch.later hb,rBytes.keep h.bytes2 fun q hq=>hb.block q (Nat.lt_of_lt_of_le hq.1.2 h.top),h.ne1,h.ne2,h.ne3,Nat.le_trans h.top hs⟩
theorem sk_ch{w W0 w1:World}{gs g mb base lo hi:Nat}{b:List UInt8}{n p:Nat}{sa:Option Addr}{sc:Nat}{ab:Option Addr}{cb:Nat}{ap:Option Addr}{cp:Nat}{a1:Option Addr}{c1:Nat}(h:SkAt w gs g mb base lo hi b n sa sc ab cb ap cp)(hb:Below w.heap.size w W0)
  (h1:ChAt w1 g mb base b p ab cb a1 c1) (h2:Tch (fun q=>q=g∨q=mb∨(Value.slice ap n cp).ownBlock=some q) W0 w1) (h3:(Value.slice a1 p c1).ownBlock=(Value.slice ap n cp).ownBlock∨∃q,(Value.slice a1 p c1).ownBlock=some q∧W0.heap.size≤q):
  SkAt w1 gs g mb base lo hi b p sa sc ab cb a1 c1∧Tch (fun q=>q=gs∨q=g∨q=mb∨(Value.slice ap n cp).ownBlock=some q) w w1∧((Value.slice a1 p c1).ownBlock=(Value.slice ap n cp).ownBlock∨∃q,(Value.slice a1 p c1).ownBlock=some q∧w.heap.size≤q):=by
 have hs:=hb.size
 have hs2:=h2.size
 obtain⟨t,ht⟩:=h.blk
 have hn:∀q,q<w.heap.size→(Value.slice ap n cp).ownBlock≠some q→(Value.slice a1 p c1).ownBlock≠some q:=fun q hq hne e=>by
  rcases h3 with h3 | ⟨q',hq',hlt⟩
  ·rw[h3] at e;exact hne e
  ·rw[hq'] at e;have:=Option.some.inj e;omega
 have keep:∀q,q<w.heap.size→q≠g→q≠mb→(Value.slice ap n cp).ownBlock≠some q→w1.heap[q]? =w.heap[q]? :=fun q hq k1 k2 k3=>
  (h2.block q (by omega) (fun e=>by rcases e with e | e | e<;>contradiction)).trans (hb.block q hq)
 refine⟨⟨⟨t,(keep gs ht.lt h.ne1 h.ne2 h.ne3).trans ht⟩,?_,h1,?_,h.ne1,h.ne2,hn gs ht.lt h.ne3,by have:=h.top;omega⟩,⟨h2.os.trans hb.os,h2.tape.trans hb.tape,h2.output.trans hb.output,by omega,fun q hq hf=>keep q hq (fun e=>hf (.inr (.inl e))) (fun e=>hf (.inr (.inr (.inl e)))) (fun e=>hf (.inr (.inr (.inr e))))⟩,?_⟩
 ·exact rBytes.mono (rBytes.keep h.bytes fun q hq=>keep q (Nat.lt_of_lt_of_le hq.1.2 h.top) hq.2.2.1 hq.2.2.2.1 hq.2.2.2.2) fun q hq=>⟨hq.1,hq.2.1,hq.2.2.1,hq.2.2.2.1,hn q (Nat.lt_of_lt_of_le hq.1.2 h.top) hq.2.2.2.2⟩
 ·exact rBytes.mono (rBytes.keep h.bytes2 fun q hq=>keep q (Nat.lt_of_lt_of_le hq.1.2 h.top) hq.2.2.1 hq.2.2.2.1 hq.2.2.2.2) fun q hq=>⟨hq.1,hq.2.1,hq.2.2.1,hq.2.2.2.1,hn q (Nat.lt_of_lt_of_le hq.1.2 h.top) hq.2.2.2.2⟩
 ·rcases h3 with h3 | ⟨q',hq',hlt⟩
  ·exact .inl h3
  ·exact .inr ⟨q',hq',by omega⟩
theorem SkAt.tch{F:Nat→Prop}{w w':World}{gs g mb base lo hi:Nat}{b:List UInt8}{n:Nat}{sa:Option Addr}{sc:Nat}{ab:Option Addr}{cb:Nat}{ap:Option Addr}{cp:Nat}(h:SkAt w gs g mb base lo hi b n sa sc ab cb ap cp)(hT:Tch F w w')(h1:¬F g)(h2:¬F mb)(h3:∀q,(Value.slice ap n cp).ownBlock=some q→¬F q)(h4:∀q,lo≤q→q<hi→q≠gs→¬F q)
  (hb:∃t:Int,Blk w' gs 463 #[.slice sa b.length sc,.pointer (some ⟨g,0,none⟩),.int .i64 t]):SkAt w' gs g mb base lo hi b n sa sc ab cb ap cp:=by
 have hs:=hT.size
 have ht:=h.top
 obtain⟨D,hD,hL⟩:=h.ch.map
 exact⟨hb,rBytes.keep h.bytes fun q hq=>hT.block q (by omega) (h4 q hq.1.1 hq.1.2 hq.2.1),⟨h.ch.blk.tch hT h1,rBytes.mono (rBytes.keep h.bytes2 fun q hq=>hT.block q (by omega) (h4 q hq.1.1 hq.1.2 hq.2.1)) fun q hq=>⟨by omega,hq.2.2⟩,⟨D,map_keep hD (hT.block _ hD.lt h2),hL⟩,
  own_keep h.ch.prev fun q hq=>hT.block q (h.ch.prev.lt q hq).2 (h3 q hq),h.ch.ne1,h.ch.ne2,h.ch.ne3,h.ch.lo,h.ch.le,h.ch.len⟩,rBytes.keep h.bytes2 fun q hq=>hT.block q (by omega) (h4 q hq.1.1 hq.1.2 hq.2.1),h.ne1,h.ne2,h.ne3,by omega⟩
theorem SkAt.turned{w w':World}{gs g mb base lo hi:Nat}{b:List UInt8}{n:Nat}{sa:Option Addr}{sc:Nat}{ab:Option Addr}{cb:Nat}{ap:Option Addr}{cp:Nat}(h:SkAt w gs g mb base lo hi b n sa sc ab cb ap cp)(hT:Tch (fun q=>q=gs) w w')
  (hb:∃t:Int,Blk w' gs 463 #[.slice sa b.length sc,.pointer (some ⟨g,0,none⟩),.int .i64 t]):SkAt w' gs g mb base lo hi b n sa sc ab cb ap cp:=
 h.tch hT (Ne.symm h.ne1) (Ne.symm h.ne2) (fun q hq e=>h.ne3 (e ▸ hq)) (fun q _ _ h e=>h e) hb
theorem chain_places(w:World)(g p:Nat):Calls Tryz.prog 420 #[.pointer (some ⟨g,0,none⟩),.int .i64 (p:Int)] w fun r w'=>
  r=.returned (.func (.func 426) #[] #[.pointer (some ⟨w.heap.size,0,none⟩),.pointer (some ⟨w.heap.size+1,0,none⟩)])∧w'=(w.alloc (.cells #[.pointer (some ⟨g,0,none⟩)] 460)).alloc (.cells #[.int .i64 (p:Int)] 3):=by
 go_enter Tryz.func420,Tryz.ntmps420
 go_wp2
 go_ret
 exact⟨rfl,rfl⟩
theorem seek_best(w:World){gs g mb base lo hi:Nat}{b:List UInt8}{n p:Nat}{sa:Option Addr}{sc:Nat}{ab:Option Addr}{cb:Nat}{ap:Option Addr}{cp:Nat}(h:SkAt w gs g mb base lo hi b n sa sc ab cb ap cp)(hn:n≤p)(hp:p<b.length):
  Calls Tryz.prog 415 #[.pointer (some ⟨gs,0,none⟩),.int .i64 (p:Int)] w (BestPost w gs g mb base lo hi b n p sa sc ab cb ap cp):=by
 obtain⟨t0,hblk⟩:=h.blk
 have hlen:=h.ch.len
 have hgs:=hblk.lt
 have c0:w.cell? ⟨gs,0,none⟩=some (.slice sa b.length sc):=hblk.cell 0
 have c1:w.cell? ⟨gs,1,none⟩=some (.pointer (some ⟨g,0,none⟩)):=hblk.cell 1
 have e1:min (p:Int) (b.length:Int)=(p:Int):=by omega
 have hpl:(p:Int)<(b.length:Int):=by omega
 have hfw:∀f,Fence.wide.fn f=True:=fun _=>rfl
 have H:=hid h;have HB:=hid hblk
 clear h hblk
 refine (callsIn_wide (n:=5)).1 ?_
 refine callsIn_of_wp_marks Tryz.func415 rfl trivial ?_ rfl
 simp only[Tryz.ntmps415,List.size_toArray,List.length_cons,List.length_nil,Nat.reduceAdd,Nat.reduceSub,Array.replicate_succ,Array.replicate_zero,List.push_toArray,List.append_toArray,List.nil_append,List.cons_append]
 have hmx:Tryz.prog.follows .mixedOrders=true:=by kernel_rfl
 refine wpIn_wide.2 ?_
 go_wp2
 refine wp_region_still_drew 11 (by kernel_rfl) (by kernel_rfl) ?_
 simp only[List.take_succ_cons,List.take_zero,List.drop_succ_cons,List.drop_zero]
 repeat still_step
 refine wpStill_nil ?_
 go_wp2_with fail
 refine (chain_addTo _ (H.out.ch.later (by (repeat (first | exact Below.refl _ _ | assumption | (refine below_alloc ?_ _) | (refine Below.setCell ?_ (by first | omega | (simp;done) | (simp;omega)) _) | (refine Below.drew ?_) | (refine below_drewN ?_ _) | (refine below_then (by assumption) ?_))))) p hn (by omega)).mono ?_
 rintro r w1 ⟨rfl,a1,c1',hch,htch,hown⟩
 obtain⟨hsk,htw,howw⟩:=sk_ch H.out (by (repeat (first | exact Below.refl _ _ | assumption | (refine below_alloc ?_ _) | (refine Below.setCell ?_ (by first | omega | (simp;done) | (simp;omega)) _) | (refine Below.drew ?_) | (refine below_drewN ?_ _) | (refine below_then (by assumption) ?_)))) hch htch hown
 have z1:w.heap.size+1<w1.heap.size:=by have:=htch.size;simp at this;omega
 have P0:Blk w1 w.heap.size 455 #[.pointer (some ⟨gs,0,none⟩)]:=Blk.tch (by (repeat (first | assumption | exact Blk.newAt _ _ _ (by first | (simp;done) | (simp;omega)) | refine Blk.alloc ?_ _ | refine Blk.drew ?_ | refine Blk.drewN ?_ _ | refine Blk.far ?_ (by first | (simp;done) | (simp;omega)) _))) htch (fun e=>by
  have h1:=H.out.ch.blk.lt
  obtain⟨D,hD,_⟩:=H.out.ch.map
  have h2:=hD.lt
  rcases e with e | e | e
  ·omega
  ·omega
  ·have:=(H.out.ch.prev.lt _ e).2;omega)
 have P1:Blk w1 (w.heap.size+1) 3 #[.int .i64 (p:Int)]:=Blk.tch (by (repeat (first | assumption | exact Blk.newAt _ _ _ (by first | (simp;done) | (simp;omega)) | refine Blk.alloc ?_ _ | refine Blk.drew ?_ | refine Blk.drewN ?_ _ | refine Blk.far ?_ (by first | (simp;done) | (simp;omega)) _))) htch (fun e=>by
  have h1:=H.out.ch.blk.lt
  obtain⟨D,hD,_⟩:=H.out.ch.map
  have h2:=hD.lt
  rcases e with e | e | e
  ·omega
  ·omega
  ·have:=(H.out.ch.prev.lt _ e).2;omega)
 have HSK:=hid hsk;have HTW:=hid htw;have HOW:=hid howw;have HP0:=hid P0;have HP1:=hid P1
 clear hsk htw howw P0 P1 hch htch hown c0 c1
 go_wp2_with fail
 refine wp_world (fun W=>Below w1.heap.size w1 W∧W.heap.size=w1.heap.size+2∧Blk W w1.heap.size 3 #[.int .i64 0]∧Blk W (w1.heap.size+1) 3 #[.int .i64 0]) ⟨by (repeat (first | exact Below.refl _ _ | assumption | (refine below_alloc ?_ _) | (refine Below.setCell ?_ (by first | omega | (simp;done) | (simp;omega)) _) | (refine Below.drew ?_) | (refine below_drewN ?_ _) | (refine below_then (by assumption) ?_))),by simp,by (repeat (first | assumption | exact Blk.newAt _ _ _ (by first | (simp;done) | (simp;omega)) | refine Blk.alloc ?_ _ | refine Blk.drew ?_ | refine Blk.drewN ?_ _ | refine Blk.far ?_ (by first | (simp;done) | (simp;omega)) _)),by (repeat (first | assumption | exact Blk.newAt _ _ _ (by first | (simp;done) | (simp;omega)) | refine Blk.alloc ?_ _ | refine Blk.drew ?_ | refine Blk.drewN ?_ _ | refine Blk.far ?_ (by first | (simp;done) | (simp;omega)) _))⟩ ?_
 intro W ⟨hbW,hzW,Q0,Q1⟩
 have HZW:=hid hzW;clear hzW
 have HSW:=hid (HSK.out.later hbW)
 have HPW0:=hid (HP0.out.later hbW)
 have HPW1:=hid (HP1.out.later hbW)
 obtain⟨t1,hb1⟩:=HSW.out.blk
 have c1:W.cell? ⟨gs,1,none⟩=some (.pointer (some ⟨g,0,none⟩)):=hb1.cell 1
 have c2:W.cell? ⟨w.heap.size,0,none⟩=some (.pointer (some ⟨gs,0,none⟩)):=HPW0.out.cell 0
 have c3:W.cell? ⟨w.heap.size+1,0,none⟩=some (.int .i64 (p:Int)):=HPW1.out.cell 0
 have HQ0:=hid Q0;have HQ1:=hid Q1
 clear hb1 Q0 Q1
 refine wp_region_still_drew 5 (by kernel_rfl) (by kernel_rfl) ?_
 simp only[List.take_succ_cons,List.take_zero,List.drop_succ_cons,List.drop_zero]
 repeat still_step
 refine wpStill_nil ?_
 go_wp2_with fail
 refine (chain_places _ g p).mono ?_
 rintro r w5 ⟨rfl,hw5⟩
 have hb5:Below W.heap.size W w5:=by rw[hw5];(repeat (first | exact Below.refl _ _ | assumption | (refine below_alloc ?_ _) | (refine Below.setCell ?_ (by first | omega | (simp;done) | (simp;omega)) _) | (refine Below.drew ?_) | (refine below_drewN ?_ _) | (refine below_then (by assumption) ?_)))
 have BC:Blk w5 W.heap.size 460 #[.pointer (some ⟨g,0,none⟩)]:=by rw[hw5];exact Blk.alloc (Blk.newAt _ _ _ (by simp)) _
 have BA:Blk w5 (W.heap.size+1) 3 #[.int .i64 (p:Int)]:=by rw[hw5];exact Blk.newAt _ _ _ (by simp)
 have hz5:w5.heap.size=W.heap.size+2:=by rw[hw5];simp
 have HS5:=hid (HSW.out.later hb5)
 have HB5:=hid hb5;have HBC:=hid BC;have HBA:=hid BA
 clear hw5 hb5 BC BA
 go_wp2_with fail
 have hgs1:=HSK.out.blk.choose_spec.lt
 have hg1:=HSK.out.ch.blk.lt
 have htop:=HSK.out.top
 have hm1:mb<w1.heap.size:=by obtain⟨D,hD,_⟩:=HSK.out.ch.map;exact hD.lt
 have hz5':w5.heap.size=w1.heap.size+4:=by have:=HZW.out;omega
 have HZ5:=hid hz5';clear hz5 hz5'
 have hlt5:w1.heap.size+1<w5.heap.size:=by have:=HZ5.out;omega
 have BO:Blk w5 w1.heap.size 3 #[.int .i64 0]:=HQ0.out.later HB5.out
 have BN:Blk w5 (w1.heap.size+1) 3 #[.int .i64 0]:=HQ1.out.later HB5.out
 have P0:Blk w5 w.heap.size 455 #[.pointer (some ⟨gs,0,none⟩)]:=HPW0.out.later HB5.out
 have P1:Blk w5 (w.heap.size+1) 3 #[.int .i64 (p:Int)]:=HPW1.out.later HB5.out
 have hby:=rBytes.keep HSK.out.bytes (w':=w5) fun q hq=>(HB5.out.block q (by have:=HZW.out;have:=HSK.out.top;omega)).trans (hbW.block q (Nat.lt_of_lt_of_le hq.1.2 HSK.out.top))
 have HBY:=hid hby;have HBO:=hid BO;have HBN:=hid BN;have HPP0:=hid P0;have HPP1:=hid P1
 clear BO BN P0 P1 hby c1 c2 c3
 have hgsz:gs<w.heap.size:=hgs
 refine (wpIn_wide (n:=5)).1 ?_
 refine wpIn_rangeFunc_ownG rfl (by decide) (gf:=426) (lb:=#[.pointer (some ⟨W.heap.size,0,none⟩),.pointer (some ⟨W.heap.size+1,0,none⟩)]) rfl trivial (enters_of Tryz.func426 (by kernel_rfl) rfl)
  (places_stops w5 HS5.out.ch HBC.out HBA.out) (fun h k=>h.trans k) ?hKb (Below.refl _ _) (fun _=>rfl)
  (fun pre V=>(∃t:Int,Blk V gs 463 #[.slice sa b.length sc,.pointer (some ⟨g,0,none⟩),.int .i64 t])∧Blk V w1.heap.size 3 #[.int .i64 ((bestL b p pre).1:Int)]∧Blk V (w1.heap.size+1) 3 #[.int .i64 ((bestL b p pre).2:Int)]∧Tch (fun q=>q=gs∨q=w1.heap.size∨q=w1.heap.size+1) w5 V)
  (fun c pre V=>c=.exit 0∧p+(bestL b p pre).2=b.length∧(∃t:Int,Blk V gs 463 #[.slice sa b.length sc,.pointer (some ⟨g,0,none⟩),.int .i64 t])∧Blk V w1.heap.size 3 #[.int .i64 ((bestL b p pre).1:Int)]∧Blk V (w1.heap.size+1) 3 #[.int .i64 ((bestL b p pre).2:Int)]∧Tch (fun q=>q=gs∨q=w1.heap.size∨q=w1.heap.size+1) w5 V)
  ?hI ?hIx ?h0
  (fun x=>{tmps:=#[.pointer (some ⟨gs,0,none⟩),.int .i64 (p:Int),.pointer (some ⟨w.heap.size,0,none⟩),.pointer (some ⟨w.heap.size+1,0,none⟩),.int .i64 0,.int .i64 0,.pointer (some ⟨w1.heap.size,0,none⟩),.pointer (some ⟨w1.heap.size+1,0,none⟩),.int .i64 (x.val:Int),undef,
   .pointer (some ⟨gs,0,none⟩),.bool false,.pointer (some ⟨gs,0,none⟩),.pointer (some ⟨gs,0,none⟩),.pointer (some ⟨gs,1,none⟩),.pointer (some ⟨g,0,none⟩),.int .i64 (p:Int),.pointer (some ⟨gs,0,none⟩),.pointer (some ⟨gs,0,none⟩),.pointer (some ⟨gs,0,none⟩),.slice sa b.length sc,.int .i64 (b.length:Int),.int .i64 (p:Int),.int .i64 ((p:Int)-(n:Int)),
   .pointer (some ⟨gs,0,none⟩),.pointer (some ⟨gs,0,none⟩),.pointer (some ⟨gs,1,none⟩),.pointer (some ⟨g,0,none⟩),.int .i64 (p:Int),.func (.func 426) #[] #[.pointer (some ⟨W.heap.size,0,none⟩),.pointer (some ⟨W.heap.size+1,0,none⟩)],.int .i64 (x.val:Int),
   undef,undef,undef,undef,undef,undef,undef,undef,undef,undef,undef,undef,undef,undef,undef,undef,undef,undef,undef,undef,undef,undef,undef,undef,undef,undef,undef,undef,undef,undef,undef,undef,undef,undef,undef,undef,undef],defers:=[]}) ?assign ?body ?done ?stop
 case hKb=>
  intro V l o o' hl ho _ _ q hq
  refine World.putObj_heap_other ?_
  have:=HZ5.out
  have hz:=HZW.out
  have hs:=HB5.out.size
  rcases hq with e | e | e | e | e
  ·omega
  ·omega
  ·have:=(HSK.out.ch.prev.lt _ e).2;omega
  ·omega
  ·omega
 case hI=>
  rintro pre X Y row ⟨⟨t,h1⟩,h2,h3,h4⟩ hg' hr
  have hne:∀q,q<w5.heap.size→Y.heap[q]? =X.heap[q]? :=fun q hq=>hg'.block q (Nat.lt_of_lt_of_le hq h4.size) (fun e=>by have:=(hr q e.symm).1;omega)
  exact⟨⟨t,(hne gs (by omega)).trans h1⟩,(hne _ (by omega)).trans h2,(hne _ hlt5).trans h3,⟨hg'.os.trans h4.os,hg'.tape.trans h4.tape,hg'.output.trans h4.output,Nat.le_trans h4.size hg'.size,fun q hq hf=>(hne q hq).trans (h4.block q hq hf)⟩⟩
 case hIx=>
  rintro c pre X Y row ⟨hc,hl,⟨t,h1⟩,h2,h3,h4⟩ hg' hr
  have hne:∀q,q<w5.heap.size→Y.heap[q]? =X.heap[q]? :=fun q hq=>hg'.block q (Nat.lt_of_lt_of_le hq h4.size) (fun e=>by have:=(hr q e.symm).1;omega)
  exact⟨hc,hl,⟨t,(hne gs (by omega)).trans h1⟩,(hne _ (by omega)).trans h2,(hne _ hlt5).trans h3,⟨hg'.os.trans h4.os,hg'.tape.trans h4.tape,hg'.output.trans h4.output,Nat.le_trans h4.size hg'.size,fun q hq hf=>(hne q hq).trans (h4.block q hq hf)⟩⟩
 case h0=>exact ⟨HS5.out.blk,HBO.out,HBN.out,Tch.refl _ _⟩
 case assign=>
  intro l x V K hK
  gi_wp2
  exact hK
 case body=>
  rintro l pre x V ⟨⟨t,hbg⟩,hbo,hbn,htc⟩ hN
  have hxp:=x.isLt
  have nF:∀q,q<w5.heap.size→q≠gs→q≠w1.heap.size→q≠w1.heap.size+1→¬(q=gs∨q=w1.heap.size∨q=w1.heap.size+1):=fun q _ h1 h2 h3 e=>by rcases e with e | e | e<;>contradiction
  have V0:Blk V w.heap.size 455 #[.pointer (some ⟨gs,0,none⟩)]:=HPP0.out.tch htc (nF _ (by omega) (by omega) (by omega) (by omega))
  have V1:Blk V (w.heap.size+1) 3 #[.int .i64 (p:Int)]:=HPP1.out.tch htc (nF _ (by omega) (by omega) (by omega) (by omega))
  have k0:V.cell? ⟨w.heap.size,0,none⟩=some (.pointer (some ⟨gs,0,none⟩)):=V0.cell 0
  have k2:V.cell? ⟨gs,2,none⟩=some (.int .i64 t):=hbg.cell 2
  have k3:=hbg.free 2
  have HBG:=hid hbg;have HBO2:=hid hbo;have HBN2:=hid hbn;have HTC:=hid htc;have HV0:=hid V0;have HV1:=hid V1
  clear hbg hbo hbn htc V0 V1
  have hV5:w5.heap.size≤V.heap.size:=HTC.out.size
  gi_wp2
  refine wpIn_world (fun U=>Tch (fun q=>q=gs) V U∧∃t':Int,Blk U gs 463 #[.slice sa b.length sc,.pointer (some ⟨g,0,none⟩),.int .i64 t']) ⟨Tch.setCell (F:=fun q=>q=gs) (Tch.refl _ _) (fun _=>rfl) _,_,HBG.out.set 2 _⟩ ?_
  intro U ⟨hU,t',hUg⟩
  have U0:=HV0.out.tch hU (by omega)
  have U1:=HV1.out.tch hU (by omega)
  have UO:=HBO2.out.tch hU (by omega)
  have UN:=HBN2.out.tch hU (by omega)
  have HM:=hid (fun s:Later U=>seek_match b (p:Int) ((p:Int)-(x.val:Int)) (by omega) (by omega) sa b.length sc s.at_ (rBytes.mono (rBytes.keep HBY.out fun q hq=>(s.below.block q (by have:=hU.size;omega)).trans ((hU.block q (by omega) hq.2.1).trans (HTC.out.block q (by omega) (nF q (by omega) hq.2.1 (by omega) (by omega))))) fun q hq=>by have:=hU.size;have:=s.below.size;omega) hlen (by omega) (by omega))
  have et:((p:Int)-(x.val:Int)).toNat=p-x.val:=by omega
  rw[Int.toNat_natCast,et] at HM
  have i1:(0:Int)≤(p:Int)-(x.val:Int):=by omega
  have C0:=fun s:Later U=>s.cell (show U.cell? ⟨w.heap.size,0,none⟩=some (.pointer (some ⟨gs,0,none⟩)) from U0.cell 0)
  have C1:=fun s:Later U=>s.cell (show U.cell? ⟨w.heap.size+1,0,none⟩=some (.int .i64 (p:Int)) from U1.cell 0)
  have C2:=fun s:Later U=>s.cell (show U.cell? ⟨gs,0,none⟩=some (.slice sa b.length sc) from hUg.cell 0)
  have hsn:=bestL_snoc b p pre x
  have hsnb:=bestL_bound b p (pre++[x])
  have hml:=mlen_le b p (p-x.val)
  generalize hbl:bestL b p (pre++[x])=s2 at*
  generalize hbl0:bestL b p pre=s1 at*
  generalize hmm:mlen b p (p-x.val)=m at*
  have HSN:=hid hsn;have HBL:=hid hbl;have HBL0:=hid hbl0;have HMM:=hid hmm
  have HUt:=hid hU;have HUG:=hid hUg;have HUO:=hid UO;have HUN:=hid UN;have HU0:=hid U0;have HU1:=hid U1
  clear hsn hbl hbl0 hmm et hU hUg UO UN U0 U1
  have hfr:∀f,(Fence.wide.inRound l).fn f=True:=fun _=>rfl
  clear k0 k2 k3
  refine wpIn_region_rlater (by kernel_rfl) (by kernel_rfl) (by kernel_rfl) ?_
  repeat (gi_big_quiet_step (((exact laterIn_of (HM.out _)))))
  refine wpQuietIn_nil ?_
  rintro Y ⟨⟨Y',hY⟩,rfl⟩
  have Y0:=HU0.out.later hY
  have Y1:=HU1.out.later hY
  have YO:=HUO.out.later hY
  have YN:=HUN.out.later hY
  have YG:=HUG.out.later hY
  have y1:Y.cell? ⟨w.heap.size+1,0,none⟩=some (.int .i64 (p:Int)):=Y1.cell 0
  have yo:Y.cell? ⟨w1.heap.size,0,none⟩=some (.int .i64 (s1.1:Int)):=YO.cell 0
  have yn:Y.cell? ⟨w1.heap.size+1,0,none⟩=some (.int .i64 (s1.2:Int)):=YN.cell 0
  have fo:=YO.free 0
  have fn:=YN.free 0
  have HY0:=hid Y0;have HY1:=hid Y1;have HYO:=hid YO;have HYN:=hid YN;have HYG:=hid YG
  have HYb:=hid hY
  clear Y0 Y1 YO YN YG hY C0 C1 C2
  have hzz:w1.heap.size≠gs:=by omega
  have hzz2:w1.heap.size+1≠gs:=by omega
  by_cases hgt:s1.2<m
  ·have b0:decide ((s1.2:Int)<(m:Int))=true:=by simp;omega
   have b0':decide (s1.2<m)=true:=by simp;omega
   have hs2:s2=(p-x.val,m):=by
    rw[HSN.out];unfold stepB;rw[HMM.out,if_pos hgt]
   have v1:Hid ((s2.1:Int)=(p:Int)-(x.val:Int)):=hid (by rw[hs2];simp only;omega)
   have v2:Hid ((s2.2:Int)=(m:Int)):=hid (by rw[hs2])
   have HS2:=hid hs2;clear hs2 hgt
   gi_wp2
   refine wpIn_world (fun Z=>Tch (fun q=>q=gs∨q=w1.heap.size∨q=w1.heap.size+1) V Z∧Blk Z gs 463 #[.slice sa b.length sc,.pointer (some ⟨g,0,none⟩),.int .i64 t']∧Blk Z w1.heap.size 3 #[.int .i64 (s2.1:Int)]∧Blk Z (w1.heap.size+1) 3 #[.int .i64 (s2.2:Int)]∧Blk Z w.heap.size 455 #[.pointer (some ⟨gs,0,none⟩)]∧Blk Z (w.heap.size+1) 3 #[.int .i64 (p:Int)])
    ⟨(((HUt.out.mono (G:=(fun q=>q=gs∨q=w1.heap.size∨q=w1.heap.size+1)) (fun q _ e=> .inl e)).trans (Tch.of_later (F:=(fun q=>q=gs∨q=w1.heap.size∨q=w1.heap.size+1)) HYb.out) fun _ _ h=>h).setCell (fun _=> .inr (.inl rfl)) _).setCell (fun _=> .inr (.inr rfl)) _,(HYG.out.far (by dsimp only;omega) _).far (by dsimp only;omega) _,by rw[v1.out];exact (HYO.out.set 0 _).far (by simp) _,by rw[v2.out];exact (HYN.out.far (by simp) _).set 0 _,(HY0.out.far (by dsimp only;omega) _).far (by dsimp only;omega) _,(HY1.out.far (by dsimp only;omega) _).far (by dsimp only;omega) _⟩ ?_
   intro Z ⟨zt,zg,zo,zn,z0,z1⟩
   have D0:=fun s:Later Z=>s.cell (show Z.cell? ⟨w.heap.size,0,none⟩=some (.pointer (some ⟨gs,0,none⟩)) from z0.cell 0)
   have D1:=fun s:Later Z=>s.cell (show Z.cell? ⟨w.heap.size+1,0,none⟩=some (.int .i64 (p:Int)) from z1.cell 0)
   have D2:=fun s:Later Z=>s.cell (show Z.cell? ⟨gs,0,none⟩=some (.slice sa b.length sc) from zg.cell 0)
   have D3:=fun s:Later Z=>s.cell (show Z.cell? ⟨w1.heap.size+1,0,none⟩=some (.int .i64 (s2.2:Int)) from zn.cell 0)
   have HZT:=hid zt;have HZG:=hid zg;have HZO:=hid zo;have HZN:=hid zn
   clear zt zg zo zn z0 z1
   have i5:(p:Int)+(s2.2:Int)≤2097152:=by omega
   by_cases heq:p+s2.2=b.length
   ·have b1:((p:Int)+(s2.2:Int)==(b.length:Int))=true:=by simp;omega
    have HEQ:=hid heq;clear heq
    refine wpIn_region_rlater (by kernel_rfl) (by kernel_rfl) (by kernel_rfl) ?_
    repeat (gi_big_quiet_step (fail))
    refine wpQuietIn_nil ?_
    rintro W6 ⟨⟨Z6,hZ6⟩,rfl⟩
    have ht6:=HZT.out.trans (Tch.of_later (F:=fun q=>q=gs∨q=w1.heap.size∨q=w1.heap.size+1) hZ6) fun _ _ h=>h
    have HT6:=hid ht6;clear ht6
    have HZ6:=hid hZ6;clear hZ6
    clear D0 D1 D2 D3
    gi_wp2
    exact⟨keepsFrom_tch HT6.out fun q hq=>by rcases hq with e | e | e<;>omega,rfl,by rw[HBL.out];exact HEQ.out,⟨t',HZG.out.later HZ6.out⟩,by rw[HBL.out];exact HZO.out.later HZ6.out,by rw[HBL.out];exact HZN.out.later HZ6.out,HTC.out.trans HT6.out fun _ _ h=>h⟩
   ·have b1:((p:Int)+(s2.2:Int)==(b.length:Int))=false:=by simp;omega
    clear heq
    refine wpIn_region_rlater (by kernel_rfl) (by kernel_rfl) (by kernel_rfl) ?_
    repeat (gi_big_quiet_step (fail))
    refine wpQuietIn_nil ?_
    rintro W6 ⟨⟨Z6,hZ6⟩,rfl⟩
    have ht6:=HZT.out.trans (Tch.of_later (F:=fun q=>q=gs∨q=w1.heap.size∨q=w1.heap.size+1) hZ6) fun _ _ h=>h
    have HT6:=hid ht6;clear ht6
    have HZ6:=hid hZ6;clear hZ6
    clear D0 D1 D2 D3
    gi_wp2
    refine⟨keepsFrom_tch HT6.out fun q hq=>by rcases hq with e | e | e<;>omega,?_,⟨t',HZG.out.later HZ6.out⟩,by rw[HBL.out];exact HZO.out.later HZ6.out,by rw[HBL.out];exact HZN.out.later HZ6.out,HTC.out.trans HT6.out fun _ _ h=>h⟩
    intro q hq
    have hg5:=HS5.out.ch
    have n1:=HSK.out.ne1
    have n2:=HSK.out.ne2
    have hzw:=HZW.out
    have hz5:=HZ5.out
    rcases hq with e | e | e | e | e
    ·exact HT6.out.block q (by omega) (nF q (by omega) (by omega) (by omega) (by omega))
    ·exact HT6.out.block q (by omega) (nF q (by omega) (by omega) (by omega) (by omega))
    ·have h6:=(HSK.out.ch.prev.lt _ e).2
     exact HT6.out.block q (by omega) (nF q (by omega) (fun e'=>HSK.out.ne3 (e' ▸ e)) (by omega) (by omega))
    ·exact HT6.out.block q (by omega) (nF q (by omega) (by omega) (by omega) (by omega))
    ·exact HT6.out.block q (by omega) (nF q (by omega) (by omega) (by omega) (by omega))
  ·have b0:decide ((s1.2:Int)<(m:Int))=false:=by simp;omega
   have b0':decide (s1.2<m)=false:=by simp;omega
   have hs2:s2=s1:=by
    rw[HSN.out];unfold stepB;rw[HMM.out,if_neg hgt]
   have HS2:=hid hs2;clear hs2 hgt
   gi_wp2
   refine wpIn_world (fun Z=>Tch (fun q=>q=gs∨q=w1.heap.size∨q=w1.heap.size+1) V Z∧Blk Z gs 463 #[.slice sa b.length sc,.pointer (some ⟨g,0,none⟩),.int .i64 t']∧Blk Z w1.heap.size 3 #[.int .i64 (s2.1:Int)]∧Blk Z (w1.heap.size+1) 3 #[.int .i64 (s2.2:Int)]∧Blk Z w.heap.size 455 #[.pointer (some ⟨gs,0,none⟩)]∧Blk Z (w.heap.size+1) 3 #[.int .i64 (p:Int)])
    ⟨((HUt.out.mono (G:=(fun q=>q=gs∨q=w1.heap.size∨q=w1.heap.size+1)) (fun q _ e=> .inl e)).trans (Tch.of_later (F:=(fun q=>q=gs∨q=w1.heap.size∨q=w1.heap.size+1)) HYb.out) fun _ _ h=>h),HYG.out,by rw[HS2.out];exact HYO.out,by rw[HS2.out];exact HYN.out,HY0.out,HY1.out⟩ ?_
   intro Z ⟨zt,zg,zo,zn,z0,z1⟩
   have D0:=fun s:Later Z=>s.cell (show Z.cell? ⟨w.heap.size,0,none⟩=some (.pointer (some ⟨gs,0,none⟩)) from z0.cell 0)
   have D1:=fun s:Later Z=>s.cell (show Z.cell? ⟨w.heap.size+1,0,none⟩=some (.int .i64 (p:Int)) from z1.cell 0)
   have D2:=fun s:Later Z=>s.cell (show Z.cell? ⟨gs,0,none⟩=some (.slice sa b.length sc) from zg.cell 0)
   have D3:=fun s:Later Z=>s.cell (show Z.cell? ⟨w1.heap.size+1,0,none⟩=some (.int .i64 (s2.2:Int)) from zn.cell 0)
   have HZT:=hid zt;have HZG:=hid zg;have HZO:=hid zo;have HZN:=hid zn
   clear zt zg zo zn z0 z1
   have i5:(p:Int)+(s2.2:Int)≤2097152:=by omega
   by_cases heq:p+s2.2=b.length
   ·have b1:((p:Int)+(s2.2:Int)==(b.length:Int))=true:=by simp;omega
    have HEQ:=hid heq;clear heq
    refine wpIn_region_rlater (by kernel_rfl) (by kernel_rfl) (by kernel_rfl) ?_
    repeat (gi_big_quiet_step (fail))
    refine wpQuietIn_nil ?_
    rintro W6 ⟨⟨Z6,hZ6⟩,rfl⟩
    have ht6:=HZT.out.trans (Tch.of_later (F:=fun q=>q=gs∨q=w1.heap.size∨q=w1.heap.size+1) hZ6) fun _ _ h=>h
    have HT6:=hid ht6;clear ht6
    have HZ6:=hid hZ6;clear hZ6
    clear D0 D1 D2 D3
    gi_wp2
    exact⟨keepsFrom_tch HT6.out fun q hq=>by rcases hq with e | e | e<;>omega,rfl,by rw[HBL.out];exact HEQ.out,⟨t',HZG.out.later HZ6.out⟩,by rw[HBL.out];exact HZO.out.later HZ6.out,by rw[HBL.out];exact HZN.out.later HZ6.out,HTC.out.trans HT6.out fun _ _ h=>h⟩
   ·have b1:((p:Int)+(s2.2:Int)==(b.length:Int))=false:=by simp;omega
    clear heq
    refine wpIn_region_rlater (by kernel_rfl) (by kernel_rfl) (by kernel_rfl) ?_
    repeat (gi_big_quiet_step (fail))
    refine wpQuietIn_nil ?_
    rintro W6 ⟨⟨Z6,hZ6⟩,rfl⟩
    have ht6:=HZT.out.trans (Tch.of_later (F:=fun q=>q=gs∨q=w1.heap.size∨q=w1.heap.size+1) hZ6) fun _ _ h=>h
    have HT6:=hid ht6;clear ht6
    have HZ6:=hid hZ6;clear hZ6
    clear D0 D1 D2 D3
    gi_wp2
    refine⟨keepsFrom_tch HT6.out fun q hq=>by rcases hq with e | e | e<;>omega,?_,⟨t',HZG.out.later HZ6.out⟩,by rw[HBL.out];exact HZO.out.later HZ6.out,by rw[HBL.out];exact HZN.out.later HZ6.out,HTC.out.trans HT6.out fun _ _ h=>h⟩
    intro q hq
    have hg5:=HS5.out.ch
    have n1:=HSK.out.ne1
    have n2:=HSK.out.ne2
    have hzw:=HZW.out
    have hz5:=HZ5.out
    rcases hq with e | e | e | e | e
    ·exact HT6.out.block q (by omega) (nF q (by omega) (by omega) (by omega) (by omega))
    ·exact HT6.out.block q (by omega) (nF q (by omega) (by omega) (by omega) (by omega))
    ·have h6:=(HSK.out.ch.prev.lt _ e).2
     exact HT6.out.block q (by omega) (nF q (by omega) (fun e'=>HSK.out.ne3 (e' ▸ e)) (by omega) (by omega))
    ·exact HT6.out.block q (by omega) (nF q (by omega) (by omega) (by omega) (by omega))
    ·exact HT6.out.block q (by omega) (nF q (by omega) (by omega) (by omega) (by omega))
 case done=>
  rintro D ys V hD hys ⟨hg',h2,h3,h4⟩ hK
  subst hys
  have hbd:=best_done b p
  have hbb:=bestL_bound b p (placesOf b p)
  generalize hs1:bestL b p (placesOf b p)=s1 at*
  have k1:V.cell? ⟨w1.heap.size,0,none⟩=some (.int .i64 (s1.1:Int)):=h2.cell 0
  have k2:V.cell? ⟨w1.heap.size+1,0,none⟩=some (.int .i64 (s1.2:Int)):=h3.cell 0
  have HBD:=hid hbd;have HG':=hid hg';have HT4:=hid h4;have HKK:=hid hK
  clear hbd hs1 hg' h2 h3 h4 hK
  go_wp2_with fail
  refine (seek_taken _ _ _).mono ?_
  rintro r w9 ⟨rfl,rfl⟩
  have hif:∃v1 v2:Nat,bestR b p=(v1,v2)∧(if (s1.2:Int)<4 then (0:Int) else (s1.1:Int))=(v1:Int)∧(if (s1.2:Int)<4 then (0:Int) else (s1.2:Int))=(v2:Int):=by
   by_cases h4:s1.2<4
   ·exact⟨0,0,by rw[←HBD.out];unfold takenR;rw[if_pos h4,if_pos h4],by rw[if_pos (by omega)];rfl,by rw[if_pos (by omega)];rfl⟩
   ·exact⟨s1.1,s1.2,by rw[←HBD.out];unfold takenR;rw[if_neg h4,if_neg h4],by rw[if_neg (by omega)],by rw[if_neg (by omega)]⟩
  obtain⟨v1,v2,hv,hv1,hv2⟩:=hif
  rw[hv1,hv2]
  have HV:=hid hv;clear hv hv1 hv2
  go_wp2
  refine⟨by simp,.inl ⟨_,_,rfl,run_takeDeferred HKK.out,?_⟩⟩
  have hTf:Tch (fun q=>q=gs) w1 (V.putObj D (.deferred none)):=by
   have hg8:=grownBy_putObj' V D (.deferred none)
   have e5:=HB5.out
   have ez:=HZW.out
   have ez5:=HZ5.out
   have hsz4:=HT4.out.size
   refine⟨hg8.os.trans (HT4.out.os.trans (e5.os.trans hbW.os)),hg8.tape.trans (HT4.out.tape.trans (e5.tape.trans hbW.tape)),hg8.output.trans (HT4.out.output.trans (e5.output.trans hbW.output)),by have:=hg8.size;omega,fun q hq hne=> ?_⟩
   exact (hg8.block q (by omega) (fun e=>by have:=Option.some.inj e;omega)).trans ((HT4.out.block q (by omega) (fun e=>by rcases e with e | e | e<;>omega)).trans ((e5.block q (by omega)).trans (hbW.block q hq)))
  have hsf:SkAt (V.putObj D (.deferred none)) gs g mb base lo hi b p sa sc ab cb a1 c1':=HSK.out.turned hTf (by
   obtain⟨t,ht⟩:=HG'.out
   exact⟨t,(World.putObj_heap_other (by have:=HZ5.out;omega)).trans ht⟩)
  have hstep:SkStep w gs g mb base lo hi b n p sa sc ab cb ap cp (V.putObj D (.deferred none)):=⟨a1,c1',hsf,HTW.out.trans hTf (fun q _ e=> .inl e),HOW.out⟩
  have HST:=hid hstep;clear hstep hsf hTf
  refine⟨.tuple #[.int .i64 ((bestR b p).1:Int),.int .i64 ((bestR b p).2:Int)],?_,rfl,HST.out⟩
  rw[HV.out]
  simp[results,Tryz.f415,go_sem]
 case stop=>
  rintro D c pre V hD hpre ⟨hc,hl,hg',h2,h3,h4⟩ hK
  subst hc
  have hbd:=best_stop hpre hp hl
  have hbb:=bestL_bound b p pre
  generalize hs1:bestL b p pre=s1 at*
  have k1:V.cell? ⟨w1.heap.size,0,none⟩=some (.int .i64 (s1.1:Int)):=h2.cell 0
  have k2:V.cell? ⟨w1.heap.size+1,0,none⟩=some (.int .i64 (s1.2:Int)):=h3.cell 0
  have HBD:=hid hbd;have HG':=hid hg';have HT4:=hid h4;have HKK:=hid hK
  clear hbd hs1 hg' h2 h3 h4 hK hl
  refine wpIn_wide.2 ?_
  go_wp2_with fail
  refine (seek_taken _ _ _).mono ?_
  rintro r w9 ⟨rfl,rfl⟩
  have hif:∃v1 v2:Nat,bestR b p=(v1,v2)∧(if (s1.2:Int)<4 then (0:Int) else (s1.1:Int))=(v1:Int)∧(if (s1.2:Int)<4 then (0:Int) else (s1.2:Int))=(v2:Int):=by
   by_cases h4:s1.2<4
   ·exact⟨0,0,by rw[←HBD.out];unfold takenR;rw[if_pos h4,if_pos h4],by rw[if_pos (by omega)];rfl,by rw[if_pos (by omega)];rfl⟩
   ·exact⟨s1.1,s1.2,by rw[←HBD.out];unfold takenR;rw[if_neg h4,if_neg h4],by rw[if_neg (by omega)],by rw[if_neg (by omega)]⟩
  obtain⟨v1,v2,hv,hv1,hv2⟩:=hif
  rw[hv1,hv2]
  have HV:=hid hv;clear hv hv1 hv2
  go_wp2
  refine⟨by simp,.inl ⟨_,_,rfl,run_takeDeferred HKK.out,?_⟩⟩
  have hTf:Tch (fun q=>q=gs) w1 (V.putObj D (.deferred none)):=by
   have hg8:=grownBy_putObj' V D (.deferred none)
   have e5:=HB5.out
   have ez:=HZW.out
   have ez5:=HZ5.out
   have hsz4:=HT4.out.size
   refine⟨hg8.os.trans (HT4.out.os.trans (e5.os.trans hbW.os)),hg8.tape.trans (HT4.out.tape.trans (e5.tape.trans hbW.tape)),hg8.output.trans (HT4.out.output.trans (e5.output.trans hbW.output)),by have:=hg8.size;omega,fun q hq hne=> ?_⟩
   exact (hg8.block q (by omega) (fun e=>by have:=Option.some.inj e;omega)).trans ((HT4.out.block q (by omega) (fun e=>by rcases e with e | e | e<;>omega)).trans ((e5.block q (by omega)).trans (hbW.block q hq)))
  have hsf:SkAt (V.putObj D (.deferred none)) gs g mb base lo hi b p sa sc ab cb a1 c1':=HSK.out.turned hTf (by
   obtain⟨t,ht⟩:=HG'.out
   exact⟨t,(World.putObj_heap_other (by have:=HZ5.out;omega)).trans ht⟩)
  have hstep:SkStep w gs g mb base lo hi b n p sa sc ab cb ap cp (V.putObj D (.deferred none)):=⟨a1,c1',hsf,HTW.out.trans hTf (fun q _ e=> .inl e),HOW.out⟩
  have HST:=hid hstep;clear hstep hsf hTf
  refine⟨.tuple #[.int .i64 ((bestR b p).1:Int),.int .i64 ((bestR b p).2:Int)],?_,rfl,HST.out⟩
  rw[HV.out]
  simp[results,Tryz.f415,go_sem]
open Go.RowKit Go.Bs Go.Maps
def ChNew(w:World)(b:List UInt8)(r:Ending)(w':World):Prop:=∃g mb ab cb,r=.returned (.pointer (some ⟨g,0,none⟩))∧ChAt w' g mb w.heap.size b 0 ab cb none 0∧Below w.heap.size w w'∧w.heap.size≤g∧w.heap.size≤mb∧rBytes.r (fun q=>w.heap.size≤q∧q<w'.heap.size∧q≠g∧q≠mb) w' [.slice ab b.length cb] b
theorem chain_new(w:World)(b:List UInt8)(a:Option Addr)(n c:Nat)(hl:rBytes.r (·<w.heap.size) w [.slice a n c] b)(hlen:b.length≤1048576):
  Calls Tryz.prog 418 #[.slice a n c] w (ChNew w b):=by
 obtain⟨rfl,hm,_,_⟩:=sl_len hl
 obtain⟨i0,hi,hz0,hz1,hz2⟩:=info_parts info8
 have HS:=hid (fun (W:World) (hW:Below w.heap.size w W)=>src_bytes (lift hl hW))
 have HONE:=hid (byteCells_one b)
 clear hl
 have hmm:=@run_makeMap Tryz.prog
 go_enter Tryz.func418,Tryz.ntmps418
 go_wp2_with (at_builtin;go_loud (refine wpList_append_src rfl _ _ _ rfl w.heap.size 5 i0 (.int .u8 0) 1 1 Tryz.underlying22 hi hz0 hz1 hz2 rfl (by decide) _ 0 [] rfl (own_empty _ (Nat.le_refl _) rfl) a b.length c (byteCells b) rfl (HS.out _ (by (repeat (first | exact Below.refl _ _ | assumption | (refine below_alloc ?_ _) | (refine Below.setCell ?_ (by first | omega | (simp;done) | (simp;omega)) _) | (refine Below.drew ?_) | (refine below_drewN ?_ _) | (refine below_then (by assumption) ?_))))) HONE.out (by simp only[maxLen];omega) (by omega) (by simp) ?_;intro v' w1 hown1 hgrow1 hat1;rw[Nat.zero_add,List.nil_append] at hown1;obtain⟨a',c',rfl⟩:=own_form hown1;have hz1':w.heap.size+1≤w1.heap.size:=(by have:=hgrow1.size;simpa using this);have HG:=hid hgrow1;have HO:=hid hown1;have HAT:=hid hat1;clear hgrow1 hown1 hat1))
 have hA:=own_bytes2 rfl HO.out
 have hfin:ChNew w b (.returned (.pointer (some ⟨w1.heap.size+1,0,none⟩))) ((w1.alloc (.map #[] 0)).alloc (.cells #[.slice a' b.length c',.map (some w1.heap.size),.slice none 0 0] 470)):=by
  have hsz:((w1.alloc (.map #[] 0)).alloc (.cells #[.slice a' b.length c',.map (some w1.heap.size),.slice none 0 0] 470)).heap.size=w1.heap.size+2:=by simp
  have keep:∀q,q<w1.heap.size→((w1.alloc (.map #[] 0)).alloc (.cells #[.slice a' b.length c',.map (some w1.heap.size),.slice none 0 0] 470)).heap[q]? =w1.heap[q]? :=fun q hq=>(Below.heap_alloc _ _ q (by simp;omega)).trans (Below.heap_alloc _ _ q hq)
  refine⟨w1.heap.size+1,w1.heap.size,a',c',rfl,⟨Blk.newAt _ _ _ (by simp),?_,⟨.map [],(World.ownsMap_made w1 _ _ _).alloc _,fun k _=>rfl⟩,⟨by simp[prevs],.inl ⟨rfl,rfl⟩⟩,by omega,by simp[Value.ownBlock],by simp[Value.ownBlock],by omega,Nat.zero_le _,hlen⟩,?_,by omega,by omega,?_⟩
  ·exact rBytes.mono (rBytes.keep hA fun q hq=>keep q hq.2) fun q hq=>⟨by rw[hsz];omega,by omega,by omega,by simp[Value.ownBlock]⟩
  ·have hb1:Below w.heap.size w w1:=Below.grown (by (repeat (first | exact Below.refl _ _ | assumption | (refine below_alloc ?_ _) | (refine Below.setCell ?_ (by first | omega | (simp;done) | (simp;omega)) _) | (refine Below.drew ?_) | (refine below_drewN ?_ _) | (refine below_then (by assumption) ?_)))) HG.out (by simp) (fun g e=>by
    have e':some w.heap.size=some g:=e
    injection e' with e'
    omega)
   (repeat (first | exact Below.refl _ _ | assumption | (refine below_alloc ?_ _) | (refine Below.setCell ?_ (by first | omega | (simp;done) | (simp;omega)) _) | (refine Below.drew ?_) | (refine below_drewN ?_ _) | (refine below_then (by assumption) ?_)))
  ·exact rBytes.mono (rBytes.keep hA fun q hq=>keep q hq.2) fun q hq=>⟨hq.1,by rw[hsz];omega,by omega,by omega⟩
 have HF:=hid hfin;clear hfin hA
 go_ret
 exact HF.out
def SkNew(w:World)(b:List UInt8)(r:Ending)(w':World):Prop:=∃gs g mb base sa sc ab cb,r=.returned (.pointer (some ⟨gs,0,none⟩))∧SkAt w' gs g mb base w.heap.size w'.heap.size b 0 sa sc ab cb none 0∧Below w.heap.size w w'∧w.heap.size≤gs∧w.heap.size≤g∧w.heap.size≤mb∧w.heap.size≤base
theorem seek_new(w:World)(b:List UInt8)(a:Option Addr)(n c:Nat)(hl:rBytes.r (·<w.heap.size) w [.slice a n c] b)(hlen:b.length≤1048576):
  Calls Tryz.prog 414 #[.slice a n c] w (SkNew w b):=by
 obtain⟨rfl,hm,_,_⟩:=sl_len hl
 obtain⟨i0,hi,hz0,hz1,hz2⟩:=info_parts info8
 have HS:=hid (fun (W:World) (hW:Below w.heap.size w W)=>src_bytes (lift hl hW))
 have HONE:=hid (byteCells_one b)
 have HL:=hid hl
 clear hl
 go_enter Tryz.func414,Tryz.ntmps414
 go_wp2_with (at_builtin;go_loud (refine wpList_append_src rfl _ _ _ rfl w.heap.size 5 i0 (.int .u8 0) 1 1 Tryz.underlying22 hi hz0 hz1 hz2 rfl (by decide) _ 0 [] rfl (own_empty _ (Nat.le_refl _) rfl) a b.length c (byteCells b) rfl (HS.out _ (by (repeat (first | exact Below.refl _ _ | assumption | (refine below_alloc ?_ _) | (refine Below.setCell ?_ (by first | omega | (simp;done) | (simp;omega)) _) | (refine Below.drew ?_) | (refine below_drewN ?_ _) | (refine below_then (by assumption) ?_))))) HONE.out (by simp only[maxLen];omega) (by omega) (by simp) ?_;intro v' w1 hown1 hgrow1 hat1;rw[Nat.zero_add,List.nil_append] at hown1;obtain⟨a',c',rfl⟩:=own_form hown1;have hz1':w.heap.size+1≤w1.heap.size:=(by have:=hgrow1.size;simpa using this);have HG:=hid hgrow1;have HO:=hid hown1;have HAT:=hid hat1;clear hgrow1 hown1 hat1))
 have hb1:Below w.heap.size w w1:=Below.grown (by (repeat (first | exact Below.refl _ _ | assumption | (refine below_alloc ?_ _) | (refine Below.setCell ?_ (by first | omega | (simp;done) | (simp;omega)) _) | (refine Below.drew ?_) | (refine below_drewN ?_ _) | (refine below_then (by assumption) ?_)))) HG.out (by simp) (fun g e=>by
  have e':some w.heap.size=some g:=e
  injection e' with e'
  omega)
 refine (chain_new w1 b _ _ _ (lift HL.out hb1) hlen).mono ?_
 rintro r w2 ⟨g,mb,ab,cb,rfl,hch,hb2,hg,hmb,hbb⟩
 have hA:=own_bytes2 rfl HO.out
 have hs2:=hb2.size
 have hgl:=hch.blk.lt
 have hml:mb<w2.heap.size:=by obtain⟨D,hD,_⟩:=hch.map;exact hD.lt
 have hsz:(w2.alloc (.cells #[.slice a' b.length c',.pointer (some ⟨g,0,none⟩),.int .i64 0] 463)).heap.size=w2.heap.size+1:=by simp
 have keep:∀q,q<w2.heap.size→(w2.alloc (.cells #[.slice a' b.length c',.pointer (some ⟨g,0,none⟩),.int .i64 0] 463)).heap[q]? =w2.heap[q]? :=fun q hq=>Below.heap_alloc _ _ q hq
 have hfin:SkNew w b (.returned (.pointer (some ⟨w2.heap.size,0,none⟩))) (w2.alloc (.cells #[.slice a' b.length c',.pointer (some ⟨g,0,none⟩),.int .i64 0] 463)):=by
  refine⟨w2.heap.size,g,mb,w1.heap.size,a',c',ab,cb,rfl,⟨⟨0,Blk.newAt _ _ _ (by simp)⟩,?_,hch.later (by (repeat (first | exact Below.refl _ _ | assumption | (refine below_alloc ?_ _) | (refine Below.setCell ?_ (by first | omega | (simp;done) | (simp;omega)) _) | (refine Below.drew ?_) | (refine below_drewN ?_ _) | (refine below_then (by assumption) ?_)))),?_,by omega,by omega,by simp[Value.ownBlock],Nat.le_refl _⟩,?_,by omega,by omega,by omega,by omega⟩
  ·exact rBytes.mono (rBytes.keep hA fun q hq=>(keep q (by omega)).trans (hb2.block q hq.2)) fun q hq=>⟨⟨by omega,by rw[hsz];omega⟩,by omega,by omega,by omega,by simp[Value.ownBlock]⟩
  ·exact rBytes.mono (rBytes.keep hbb fun q hq=>keep q hq.2.1) fun q hq=>⟨⟨by omega,by rw[hsz];omega⟩,by omega,hq.2.2.1,hq.2.2.2,by simp[Value.ownBlock]⟩
  ·exact (hb1.trans (hb2.mono (by omega))).alloc (by omega) _
 have HF:=hid hfin;clear hfin hA hch hbb
 go_wp2
 go_ret
 exact HF.out
end Go.Proofs.YtmioakocnebceaaGreat
namespace Go.Bs
open Go.RowKit
section
variable {w w':World} {α:Type}
def OwnElsF(F:Nat→Prop)(A:Rp α)(base:Nat)(e:TypeId)(sz:Nat)(w:World)(v:Value)(xs:List α)(cells:List (List Value)):Prop:=
 w.ownsRow base e sz v xs.length cells.flatten∧cells.length=xs.length∧(∀c∈cells,c.length=sz)∧
  ∀(i:Nat) cs x,cells[i]? =some cs→xs[i]? =some x→A.r (fun b=>F b∧v.ownBlock≠some b) w cs x
theorem OwnElsF.of{lo:Nat}{A:Rp α}{base:Nat}{e:TypeId}{sz:Nat}{v:Value}{xs:List α}{cells:List (List Value)}(h:OwnElsAt lo A base e sz w v xs cells):OwnElsF (fun b=>lo≤b∧b<w.heap.size) A base e sz w v xs cells:=
 ⟨h.1,h.2.1,h.2.2.1,fun i cs x hi hx=>A.mono (h.2.2.2 i cs x hi hx) fun b hb=>⟨⟨hb.1,hb.2.1⟩,hb.2.2⟩⟩
theorem OwnElsF.to{F:Nat→Prop}{lo:Nat}{A:Rp α}{base:Nat}{e:TypeId}{sz:Nat}{v:Value}{xs:List α}{cells:List (List Value)}(h:OwnElsF F A base e sz w v xs cells)(hF:∀b,F b→lo≤b∧b<w.heap.size):OwnElsAt lo A base e sz w v xs cells:=
 ⟨h.1,h.2.1,h.2.2.1,fun i cs x hi hx=>A.mono (h.2.2.2 i cs x hi hx) fun b hb=>⟨(hF b hb.1).1,(hF b hb.1).2,hb.2⟩⟩
theorem OwnElsF.keep{F:Nat→Prop}{A:Rp α}{base:Nat}{e:TypeId}{sz:Nat}{v:Value}{xs:List α}{cells:List (List Value)}(h:OwnElsF F A base e sz w v xs cells)(hF:∀b,F b→w'.heap[b]? =w.heap[b]?)(hv:∀g,v.ownBlock=some g→w'.heap[g]? =w.heap[g]?):OwnElsF F A base e sz w' v xs cells:=by
 obtain⟨ho,hlen,hsz,hA⟩:=h
 refine⟨⟨ho.1,?_⟩,hlen,hsz,fun i cs x hi hx=>A.keep (hA i cs x hi hx) fun b hb=>hF b hb.1⟩
 rcases ho.2 with h0 | ⟨g,cap,cur,h1,h2,h3,h4⟩
 ·exact .inl h0
 ·exact .inr ⟨g,cap,cur,h1,h2,by rw[hv g (by rw[h1];rfl)];exact h3,h4⟩
theorem OwnElsF.mono{F F':Nat→Prop}{A:Rp α}{base:Nat}{e:TypeId}{sz:Nat}{v:Value}{xs:List α}{cells:List (List Value)}(h:OwnElsF F A base e sz w v xs cells)(hF:∀b,F b→F' b):OwnElsF F' A base e sz w v xs cells:=
 ⟨h.1,h.2.1,h.2.2.1,fun i cs x hi hx=>A.mono (h.2.2.2 i cs x hi hx) fun b hb=>⟨hF b hb.1,hb.2⟩⟩
theorem OwnElsF.nil{F:Nat→Prop}{A:Rp α}{base:Nat}{e:TypeId}{sz:Nat}:OwnElsF F A base e sz w (.slice none 0 0) [] []:=
 ⟨⟨by simp,.inl ⟨rfl,rfl⟩⟩,rfl,(by simp),fun i cs x h=>by simp at h⟩
theorem OwnElsF.push{F:Nat→Prop}{A:Rp α}{base:Nat}{e:TypeId}{sz:Nat}{v v':Value}{xs:List α}{news:List Value}{x:α}{cells:List (List Value)}(h:OwnElsF F A base e sz w v xs cells)(hF:∀b,F b→b<w.heap.size)
  (hn:news.length=sz) (hx:A.r (fun b=>F b∧v.ownBlock≠some b) w news x)
  (hown:w'.ownsRow base e sz v' (xs.length+1) (cells.flatten++news)) (hg:w.grownBy w' v.ownBlock) (hat:v'.ownBlock=v.ownBlock∨v'.ownBlock=some w.heap.size):OwnElsF F A base e sz w' v' (xs++[x]) (cells++[news]):=by
 obtain⟨ho,hlen,hsz,hA⟩:=h
 have lift:∀cs y,A.r (fun b=>F b∧v.ownBlock≠some b) w cs y→A.r (fun b=>F b∧v'.ownBlock≠some b) w' cs y:=fun cs y hr=>
  A.mono (A.keep hr fun b hb=>hg.block b (hF b hb.1) (fun e=>hb.2 e.symm)) fun b hb=>⟨hb.1,fun e=>by
   rcases hat with h | h
   ·exact hb.2 (h ▸ e)
   ·rw[h] at e;have:=Option.some.inj e;have:=hF b hb.1;omega⟩
 refine⟨?_,by simp[hlen],?_,?_⟩
 ·rw[List.flatten_append,List.length_append]
  simpa using hown
 ·intro c hc
  rcases List.mem_append.1 hc with h | h
  ·exact hsz c h
  ·simp at h;subst h;exact hn
 ·intro i cs y hi hy
  by_cases hlt:i<xs.length
  ·rw[List.getElem?_append_left (by omega)] at hi
   rw[List.getElem?_append_left hlt] at hy
   exact lift _ _ (hA i cs y hi hy)
  ·have hii:i=xs.length:=by
    have:=(List.getElem?_eq_some_iff.1 hy).1
    simp at this
    omega
   subst hii
   rw[List.getElem?_append_right (by omega)] at hi
   rw[List.getElem?_append_right (Nat.le_refl _)] at hy
   simp[hlen] at hi
   simp at hy
   subst hi hy
   exact lift _ _ hx
theorem OwnElsF.slice{F:Nat→Prop}{A:Rp α}{base:Nat}{e:TypeId}{sz:Nat}{v:Value}{xs:List α}{cells:List (List Value)}(h:OwnElsF F A base e sz w v xs cells):(rSl sz A).r (fun b=>F b∨v.ownBlock=some b) w [v] xs:=by
 obtain⟨hown,hlen,hsz,hA⟩:=h
 rcases hown.2 with ⟨rfl,h0⟩ | ⟨g,cap,cur,rfl,hbg,hg,hn,hc,hcur,hx⟩
 ·have:xs=[]:=List.eq_nil_of_length_eq_zero h0
  subst this
  exact rSl_mk rfl (Nat.le_refl _) (Nat.zero_le _) (.inl rfl)
 ·refine rSl_mk rfl hn hc (.inr ⟨g,0,rfl,.inr rfl,fun i x hi=> ?_⟩)
  have hi':i<xs.length:=(List.getElem?_eq_some_iff.1 hi).1
  have hic:i<cells.length:=by omega
  have hcs:cells[i]? =some cells[i]:=List.getElem?_eq_getElem hic
  refine⟨cells[i],hsz _ (List.getElem_mem hic),fun j v hj=> ?_,A.mono (hA i _ x hcs hi) fun b h=> .inl h.1⟩
  have hj':j<sz:=by have:=(List.getElem?_eq_some_iff.1 hj).1;rw[hsz _ (List.getElem_mem hic)] at this;exact this
  have hf:=flatten_at sz cells hsz i j _ v hcs hj
  rw[Nat.zero_add,Blk.cell hg (i*sz+j)]
  have hb:i*sz+j<xs.length*sz:=by
   have:=Nat.mul_le_mul_right sz (show i+1≤xs.length from hi')
   rw[Nat.succ_mul] at this
   omega
  have e1:cur[i*sz+j]? =(cur.toList.take (xs.length*sz))[i*sz+j]? :=by
   rw[List.getElem?_take,if_pos hb];simp
  rw[e1,hx];exact hf
def rBV:Rp (Batch ⊕ (Int × Int × Value)):=
  ⟨fun S w cs x=>match x with | .inl b=>rBatch.r S w cs b | .inr y=>cs=[.int .u64 y.1,.int .u64 y.2.1,y.2.2],
   fun {S w w' cs x} h hk=>by cases x with | inl b=>exact rBatch.keep h hk | inr y=>exact h,
   fun {S S' w cs x} h hk=>by cases x with | inl b=>exact rBatch.mono h hk | inr y=>exact h⟩
structure Bld2(lo:Nat)(TB TE:TypeId)(w:World)(g c:Nat)(cells:List (List Value))(s:Nat)(bs0:List Batch)(e b:Int)(es:List Entry)(vl:Value):Prop where
 own:OwnElsF (fun x=>lo≤x∧x<s) rBV lo TB 3 w (.slice (some ⟨g,0,none⟩) (bs0.length+1) c) (bs0.map .inl++[.inr (e,b,vl)]) (cells++[[.int .u64 e,.int .u64 b,vl]])
 len:cells.length=bs0.length
 lt:g<s
 le:s≤w.heap.size
 last:OwnEls s rEntry s TE 2 w vl es
 he:0≤e∧e≤18446744073709551615
 hb:0≤b∧b≤18446744073709551615
theorem OwnElsF.inl{F:Nat→Prop}{base:Nat}{e:TypeId}{sz:Nat}{v:Value}{xs:List Batch}{cells:List (List Value)}(h:OwnElsF F rBatch base e sz w v xs cells):OwnElsF F rBV base e sz w v (xs.map .inl) cells:=by
 obtain⟨ho,hlen,hsz,hA⟩:=h
 refine⟨by simpa using ho,by simpa using hlen,hsz,fun i cs x hi hx=> ?_⟩
 rw[List.getElem?_map] at hx
 cases hxi:xs[i]? with
 | none=>rw [hxi] at hx;cases hx
 | some y=>rw [hxi] at hx;cases hx;exact hA i cs y hi hxi
theorem Bld2.keep{lo:Nat}{TB TE:TypeId}{g c:Nat}{cells:List (List Value)}{s:Nat}{bs0:List Batch}{e b:Int}{es:List Entry}{vl:Value}(h:Bld2 lo TB TE w g c cells s bs0 e b es vl)(p:Nat)(hp:p<lo)
  (hk:∀b,b<w.heap.size→b≠p→w'.heap[b]? =w.heap[b]?) (hs:w.heap.size≤w'.heap.size):Bld2 lo TB TE w' g c cells s bs0 e b es vl:=by
 obtain⟨ho,h1,h2,h3,h4,h5,h6⟩:=h
 have hlo:lo≤g:=by
  rcases ho.1.2 with ⟨h0,_⟩ | ⟨g',cap,cur,hv,hb,_⟩
  ·cases h0
  ·simp at hv
   omega
 refine⟨ho.keep (fun b hb=>hk b (by omega) (by omega)) (fun g' hg'=>hk g' (by simp[Value.ownBlock] at hg';omega) (by simp[Value.ownBlock] at hg';omega)),h1,h2,by omega,?_,h5,h6⟩
 obtain⟨cs,hc⟩:=h4
 have h8:=(OwnElsF.of hc).keep (w':=w') (fun b hb=>hk b hb.2 (by omega)) (fun g' hg'=>hk g' (hc.1.lt g' hg').2 (by have:=(hc.1.lt g' hg').1;omega))
 exact⟨cs,h8.to fun b hb=>⟨hb.1,by omega⟩⟩
end
end Go.Bs
