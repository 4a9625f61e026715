/- Mini: Needed by pushItems_walk, part 10: texts put together by shake.py; no condition. -/
import Derived.Test.YtfddhafbhceoaaaGreatWE4
import Derived.Test.YtfddhafbhceoaaaGreatWE3
import Derived.Test.YtfddhafbhceoaaaGreatWE2
import Derived.Scope
import Derived.Test.YtfddhafbhceoaaaGreatWE9
import Derived.Test.YtfddhafbhceoaaaGreatWE1
import Derived.Test.YtfddhafbhceoaaaGreatProg
import Derived.WalkKit
import Derived.Deep.Cut
import Derived.Deep.WholeRow
import Derived.BigQuiet
import Derived.Test.YtfddhafbhceoaaaGreatWE8
import Derived.Deep.CutRange
import Derived.Test.YtfddhafbhceoaaaGreatWE6
import Derived.Test.YtfddhafbhceoaaaGreatWE5
set_option linter.unusedVariables false
set_option linter.unusedSimpArgs false
set_option maxRecDepth 100000
set_option maxHeartbeats 6400000
namespace Go.Bs
theorem zCk{p:Prop}(h:p:=by simp [BR]):p:=h
theorem zBx{p:Prop}(h:p:=by rw [hb.out]; rfl):p:=h
theorem zAv{p:Prop}(h:p:=by rw [HM.out]; simp):p:=h
theorem zAs{p:Prop}(h:p:=by rw [hff.out, hfin.out]; rfl):p:=h
theorem zAq{p:Prop}(h:p:=by simp [results, Tryz.results320, go_sem, lt2, x0, x1, x2]):p:=h
theorem zAa{p:Prop}(h:p:=by rw [← HW1.out]; simp):p:=h
theorem Z7{p:Prop}(h:p:=by unfold Dc; dsimp only; rw [hG]):p:=h
theorem zU{p:Prop}(h:p:=by unfold KE; decide):p:=h
abbrev Acq(h:Array Value:=by exact #[.int .i64 m.kind,.int .u64 m.epoch,.int .u64 m.seq,.int .u64 m.pos,.int .i64 m.count,.int .i64 m.state,.slice a1 m.streams.length c1,.slice a2 m.links.length c2,.slice a3 m.data.length c3,.int .u64 m.sea.epoch,.int .u64 m.sea.node,.int .u64 m.sea.tail,.int .u64 m.proj.epoch,.slice a4 m.proj.stripes.length c4]):=h
abbrev Acx(h:Array Value:=by exact #[.int .i64 kk,.int .u64 ep,.int .u64 sq,.int .u64 po,.int .i64 cn,.int .i64 st,.slice a1 SS.length c1,.slice a2 LS.length c2,.slice a3 DD.length c3,.int .u64 se,.int .u64 sn,.int .u64 tl,.int .u64 pe,.slice a4 PL.length c4]):=h
theorem Lw:type_of% @wp_scope_straight:=@wp_scope_straight
end Go.Bs
namespace Go.Proofs.YtfddhafbhceoaaaGreat
open Go.RowKit Go.Bs Go.Maps
variable{m:Msg}{p:Nat}{v:Value}{w w':World}
theorem Pg(L:List (List Int)):∀n k,k≤n→BR L n=true→BR L k=true
 | 0,k,h,hs=>by rw[show k=0 by omega];rfl
 | n+1,k,h,hs=>by
  by_cases hk:k=n+1
  ·rw[hk];exact hs
  ·simp only[BR,Aq] at hs
   exact Pg L n k zD hs.1
theorem KY(lo hi:Int)(L:List (List Int))(a:Option Addr)(n c:Nat)(w:World)(hl:EH.r (·<w.heap.size) w [.slice a n c] L):
  Calls Tryz.prog 341 #[.agg #[.int .u64 lo,.int .u64 hi,.slice a n c]] w fun r w'=>r=.returned (.bool (Dc ⟨lo,hi,L⟩))∧Below w.heap.size w w':=by
 obtain⟨rfl,hm,hcc,hcm⟩:=AT hl;have HL:=hid hl;clear hl;by_cases h1:lo<hi
 ·have d1':decide (lo<hi)=true:=Ad h1
  by_cases h2:hi≤4611686018427387904
  ·have d2':decide (hi≤4611686018427387904)=true:=Ad h2
   by_cases h3:1≤L.length
   ·have d3':decide ((1:Int)≤(L.length:Int))=true:=Ad zD
    by_cases h4:L.length≤8
    ·have d4':decide ((L.length:Int)≤8)=true:=Ad zD
     have hG:decide (lo<hi∧hi≤4611686018427387904∧1≤L.length∧L.length≤8)=true:=Ad ⟨h1,h2,h3,h4⟩;go_enter Tryz.func341,Tryz.ntmps341;have hff:Hid (Dc ⟨lo,hi,L⟩=(true&&BR L L.length)):=hid Z7;have x0:(w.alloc (.cells #[.int .u64 lo,.int .u64 hi,.slice a L.length c] 219)).cell? ⟨w.heap.size,2,none⟩=some (.slice a L.length c):=zN;have hb0:Below w.heap.size w (w.alloc (.cells #[.int .u64 lo,.int .u64 hi,.slice a L.length c] 219)):=zB;have hs0:w.heap.size<(w.alloc (.cells #[.int .u64 lo,.int .u64 hi,.slice a L.length c] 219)).heap.size:=zN;go_wp2_with fail;refine Lw ?_;go_wp2_with fail;refine wp_label ?_;go_wp2_with fail;generalize w.alloc (.cells #[.int .u64 lo,.int .u64 hi,.slice a L.length c] 219)=w0 at*;have HB0:=hid hb0;clear hb0;go_loopw [3,31] (fun g i wr=>∃k:Nat,k≤L.length∧i=.int .i64 k∧g=.bool (true&&BR L k)∧Below w0.heap.size w0 wr) (fun _ i _=>L.length-(intOf i).toNat)
     case atStart=>exact ⟨0,Am _,rfl,zCk,Below.refl _ _⟩
     case round=>
      obtain⟨k,hk,rfl,rfl,hb⟩:=hrel;have HB:=hid hb;have HBW:=hid (HB0.out.trans (hb.mono HB0.out.size));have hsz:=hb.size;by_cases hlt:k<L.length
      ·have i1:(k:Int)<(L.length:Int):=by omega
       have i2:(k:Int)≤(c:Int):=zD;have d1:decide ((k:Int)<(L.length:Int))=true:=Ad i1;have X0:=(hb.cell (p:=⟨w.heap.size,2,none⟩) hs0).trans x0;obtain⟨b,o,hA,hbb,ak,ck,u0,xl⟩:=GQ (lift HL.out HBW.out) hlt;subst hA;have hmono:(true&&BR L k)=false→(true&&BR L L.length)=false:=fun h=>by
        cases hg:true
        ·rfl
        ·rw[hg] at h
         rcases hh:BR L L.length with _ | _
         ·rfl
         ·exfalso
          have:=Pg L L.length k zD hh;rw[this] at h;cases h
       have hstep:BR L (k+1)=(BR L k&&(Dx L[k]&&Dq L[k] (L.take k))):=by
        show (BR L k&&Iv L k)=_
        unfold Iv;rw[Jg L k [] hlt]
       have HN:=hid (FO L[k] ak _ ck wr xl);have HAP:=hid (fun (W:World) (hW:Below wr.heap.size wr W)=>Ez L[k] (L.take k) ak _ ck (some ⟨b,o,none⟩) k c W (lift xl hW) (Ic (lift (lift HL.out HBW.out) hW) zD));have HMO:=hid hmono;have HST:=hid hstep;have hc0:k≤c:=zD;obtain⟨s1,hs1⟩:∃s1,BR L (k+1)=s1:=⟨_,rfl⟩;have HS1:=hid hs1;rw[hs1] at HST;clear hs1;generalize BR L k=s0 at*;generalize Dx L[k]=nn at*;generalize Dq L[k] (L.take k)=ap at*;generalize L[k]=X at*;clear hb xl hmono hstep;rcases hg:(true&&s0) with _ | _
       ·have hfin:=hid (HMO.out hg)
        clear hg;go_wp2_with fail
        (try simp only[Exit.noGoto])
        (try go_wp2_with fail)
        go_ret;exact⟨zAs,HBW.out⟩
       ·have hg2:(true&&s1)=(nn&&ap):=by
         rw[HST.out,←Bool.and_assoc,hg,BY]
        have HG2:=hid hg2;clear hg hg2;cases nn
        ·go_wp2_with fail
         refine HN.out.mono ?_;rintro r w3 ⟨rfl,hb3⟩;have hbe:=Af hb3 HB.out;go_wp2_with fail;go_roundw
         case rel=>exact ⟨k+1,zD,zV,by rw[HS1.out,HG2.out];rfl,hbe⟩
         case measure=>(simp[intOf];try omega)
        ·go_wp2_with fail
         refine HN.out.mono ?_;rintro r w3 ⟨rfl,hb3⟩;have Y0:=(hb3.cell (p:=⟨w.heap.size,2,none⟩) zJ).trans X0;have hbe:=Af hb3 HB.out;have HA2:=hid (HAP.out w3 hb3);go_wp2_with fail;refine HA2.out.mono ?_;rintro r w4 ⟨rfl,hb4⟩;have hbf:=Af hb4 hbe;go_wp2_with fail;go_roundw
         case rel=>exact ⟨k+1,zD,zV,by rw[HS1.out,HG2.out];rfl,hbf⟩
         case measure=>(simp[intOf];try omega)
      ·obtain rfl:k=L.length:=by omega
       have d1:decide ((L.length:Int)<(L.length:Int))=false:=Ae zD;clear hb;go_wp2_with fail
       (try simp only[Exit.noGoto])
       (try go_wp2_with fail)
       go_ret;exact⟨by rw[hff.out];first | done | rfl | (simp;done) | simp[Exit.noGoto],HBW.out⟩
    ·have d4':decide ((L.length:Int)≤8)=false:=Ae zD
     have hG:decide (lo<hi∧hi≤4611686018427387904∧1≤L.length∧L.length≤8)=false:=Ae zD;go_enter Tryz.func341,Tryz.ntmps341;have hff:Hid (Dc ⟨lo,hi,L⟩=(false&&BR L L.length)):=hid Z7;have x0:(w.alloc (.cells #[.int .u64 lo,.int .u64 hi,.slice a L.length c] 219)).cell? ⟨w.heap.size,2,none⟩=some (.slice a L.length c):=zN;have hb0:Below w.heap.size w (w.alloc (.cells #[.int .u64 lo,.int .u64 hi,.slice a L.length c] 219)):=zB;have hs0:w.heap.size<(w.alloc (.cells #[.int .u64 lo,.int .u64 hi,.slice a L.length c] 219)).heap.size:=zN;go_wp2_with fail;refine Lw ?_;go_wp2_with fail;refine wp_label ?_;go_wp2_with fail;generalize w.alloc (.cells #[.int .u64 lo,.int .u64 hi,.slice a L.length c] 219)=w0 at*;have HB0:=hid hb0;clear hb0;go_loopw [3,31] (fun g i wr=>∃k:Nat,k≤L.length∧i=.int .i64 k∧g=.bool (false&&BR L k)∧Below w0.heap.size w0 wr) (fun _ i _=>L.length-(intOf i).toNat)
     case atStart=>exact ⟨0,Am _,rfl,zCk,Below.refl _ _⟩
     case round=>
      obtain⟨k,hk,rfl,rfl,hb⟩:=hrel;have HB:=hid hb;have HBW:=hid (HB0.out.trans (hb.mono HB0.out.size));have hsz:=hb.size;by_cases hlt:k<L.length
      ·have i1:(k:Int)<(L.length:Int):=by omega
       have i2:(k:Int)≤(c:Int):=zD;have d1:decide ((k:Int)<(L.length:Int))=true:=Ad i1;have X0:=(hb.cell (p:=⟨w.heap.size,2,none⟩) hs0).trans x0;obtain⟨b,o,hA,hbb,ak,ck,u0,xl⟩:=GQ (lift HL.out HBW.out) hlt;subst hA;have hmono:(false&&BR L k)=false→(false&&BR L L.length)=false:=fun _=>rfl;have hstep:BR L (k+1)=(BR L k&&(Dx L[k]&&Dq L[k] (L.take k))):=by
        show (BR L k&&Iv L k)=_
        unfold Iv;rw[Jg L k [] hlt]
       have HN:=hid (FO L[k] ak _ ck wr xl);have HAP:=hid (fun (W:World) (hW:Below wr.heap.size wr W)=>Ez L[k] (L.take k) ak _ ck (some ⟨b,o,none⟩) k c W (lift xl hW) (Ic (lift (lift HL.out HBW.out) hW) zD));have HMO:=hid hmono;have HST:=hid hstep;have hc0:k≤c:=zD;obtain⟨s1,hs1⟩:∃s1,BR L (k+1)=s1:=⟨_,rfl⟩;have HS1:=hid hs1;rw[hs1] at HST;clear hs1;generalize BR L k=s0 at*;generalize Dx L[k]=nn at*;generalize Dq L[k] (L.take k)=ap at*;generalize L[k]=X at*;clear hb xl hmono hstep;rcases hg:(false&&s0) with _ | _
       ·have hfin:=hid (HMO.out hg)
        clear hg;go_wp2_with fail
        (try simp only[Exit.noGoto])
        (try go_wp2_with fail)
        go_ret;exact⟨zAs,HBW.out⟩
       ·exfalso;simp at hg
      ·obtain rfl:k=L.length:=by omega
       have d1:decide ((L.length:Int)<(L.length:Int))=false:=Ae zD;clear hb;go_wp2_with fail
       (try simp only[Exit.noGoto])
       (try go_wp2_with fail)
       go_ret;exact⟨by rw[hff.out];first | done | rfl | (simp;done) | simp[Exit.noGoto],HBW.out⟩
   ·have d3':decide ((1:Int)≤(L.length:Int))=false:=Ae zD
    have hG:decide (lo<hi∧hi≤4611686018427387904∧1≤L.length∧L.length≤8)=false:=Ae zD;go_enter Tryz.func341,Tryz.ntmps341;have hff:Hid (Dc ⟨lo,hi,L⟩=(false&&BR L L.length)):=hid Z7;have x0:(w.alloc (.cells #[.int .u64 lo,.int .u64 hi,.slice a L.length c] 219)).cell? ⟨w.heap.size,2,none⟩=some (.slice a L.length c):=zN;have hb0:Below w.heap.size w (w.alloc (.cells #[.int .u64 lo,.int .u64 hi,.slice a L.length c] 219)):=zB;have hs0:w.heap.size<(w.alloc (.cells #[.int .u64 lo,.int .u64 hi,.slice a L.length c] 219)).heap.size:=zN;go_wp2_with fail;refine Lw ?_;go_wp2_with fail;refine wp_label ?_;go_wp2_with fail;generalize w.alloc (.cells #[.int .u64 lo,.int .u64 hi,.slice a L.length c] 219)=w0 at*;have HB0:=hid hb0;clear hb0;go_loopw [3,31] (fun g i wr=>∃k:Nat,k≤L.length∧i=.int .i64 k∧g=.bool (false&&BR L k)∧Below w0.heap.size w0 wr) (fun _ i _=>L.length-(intOf i).toNat)
    case atStart=>exact ⟨0,Am _,rfl,zCk,Below.refl _ _⟩
    case round=>
     obtain⟨k,hk,rfl,rfl,hb⟩:=hrel;have HB:=hid hb;have HBW:=hid (HB0.out.trans (hb.mono HB0.out.size));have hsz:=hb.size;by_cases hlt:k<L.length
     ·have i1:(k:Int)<(L.length:Int):=by omega
      have i2:(k:Int)≤(c:Int):=zD;have d1:decide ((k:Int)<(L.length:Int))=true:=Ad i1;have X0:=(hb.cell (p:=⟨w.heap.size,2,none⟩) hs0).trans x0;obtain⟨b,o,hA,hbb,ak,ck,u0,xl⟩:=GQ (lift HL.out HBW.out) hlt;subst hA;have hmono:(false&&BR L k)=false→(false&&BR L L.length)=false:=fun _=>rfl;have hstep:BR L (k+1)=(BR L k&&(Dx L[k]&&Dq L[k] (L.take k))):=by
       show (BR L k&&Iv L k)=_
       unfold Iv;rw[Jg L k [] hlt]
      have HN:=hid (FO L[k] ak _ ck wr xl);have HAP:=hid (fun (W:World) (hW:Below wr.heap.size wr W)=>Ez L[k] (L.take k) ak _ ck (some ⟨b,o,none⟩) k c W (lift xl hW) (Ic (lift (lift HL.out HBW.out) hW) zD));have HMO:=hid hmono;have HST:=hid hstep;have hc0:k≤c:=zD;obtain⟨s1,hs1⟩:∃s1,BR L (k+1)=s1:=⟨_,rfl⟩;have HS1:=hid hs1;rw[hs1] at HST;clear hs1;generalize BR L k=s0 at*;generalize Dx L[k]=nn at*;generalize Dq L[k] (L.take k)=ap at*;generalize L[k]=X at*;clear hb xl hmono hstep;rcases hg:(false&&s0) with _ | _
      ·have hfin:=hid (HMO.out hg)
       clear hg;go_wp2_with fail
       (try simp only[Exit.noGoto])
       (try go_wp2_with fail)
       go_ret;exact⟨zAs,HBW.out⟩
      ·exfalso;simp at hg
     ·obtain rfl:k=L.length:=by omega
      have d1:decide ((L.length:Int)<(L.length:Int))=false:=Ae zD;clear hb;go_wp2_with fail
      (try simp only[Exit.noGoto])
      (try go_wp2_with fail)
      go_ret;exact⟨by rw[hff.out];first | done | rfl | (simp;done) | simp[Exit.noGoto],HBW.out⟩
  ·have d2':decide (hi≤4611686018427387904)=false:=Ae h2
   have hG:decide (lo<hi∧hi≤4611686018427387904∧1≤L.length∧L.length≤8)=false:=Ae zD;go_enter Tryz.func341,Tryz.ntmps341;have hff:Hid (Dc ⟨lo,hi,L⟩=(false&&BR L L.length)):=hid Z7;have x0:(w.alloc (.cells #[.int .u64 lo,.int .u64 hi,.slice a L.length c] 219)).cell? ⟨w.heap.size,2,none⟩=some (.slice a L.length c):=zN;have hb0:Below w.heap.size w (w.alloc (.cells #[.int .u64 lo,.int .u64 hi,.slice a L.length c] 219)):=zB;have hs0:w.heap.size<(w.alloc (.cells #[.int .u64 lo,.int .u64 hi,.slice a L.length c] 219)).heap.size:=zN;go_wp2_with fail;refine Lw ?_;go_wp2_with fail;refine wp_label ?_;go_wp2_with fail;generalize w.alloc (.cells #[.int .u64 lo,.int .u64 hi,.slice a L.length c] 219)=w0 at*;have HB0:=hid hb0;clear hb0;go_loopw [3,31] (fun g i wr=>∃k:Nat,k≤L.length∧i=.int .i64 k∧g=.bool (false&&BR L k)∧Below w0.heap.size w0 wr) (fun _ i _=>L.length-(intOf i).toNat)
   case atStart=>exact ⟨0,Am _,rfl,zCk,Below.refl _ _⟩
   case round=>
    obtain⟨k,hk,rfl,rfl,hb⟩:=hrel;have HB:=hid hb;have HBW:=hid (HB0.out.trans (hb.mono HB0.out.size));have hsz:=hb.size;by_cases hlt:k<L.length
    ·have i1:(k:Int)<(L.length:Int):=by omega
     have i2:(k:Int)≤(c:Int):=zD;have d1:decide ((k:Int)<(L.length:Int))=true:=Ad i1;have X0:=(hb.cell (p:=⟨w.heap.size,2,none⟩) hs0).trans x0;obtain⟨b,o,hA,hbb,ak,ck,u0,xl⟩:=GQ (lift HL.out HBW.out) hlt;subst hA;have hmono:(false&&BR L k)=false→(false&&BR L L.length)=false:=fun _=>rfl;have hstep:BR L (k+1)=(BR L k&&(Dx L[k]&&Dq L[k] (L.take k))):=by
      show (BR L k&&Iv L k)=_
      unfold Iv;rw[Jg L k [] hlt]
     have HN:=hid (FO L[k] ak _ ck wr xl);have HAP:=hid (fun (W:World) (hW:Below wr.heap.size wr W)=>Ez L[k] (L.take k) ak _ ck (some ⟨b,o,none⟩) k c W (lift xl hW) (Ic (lift (lift HL.out HBW.out) hW) zD));have HMO:=hid hmono;have HST:=hid hstep;have hc0:k≤c:=zD;obtain⟨s1,hs1⟩:∃s1,BR L (k+1)=s1:=⟨_,rfl⟩;have HS1:=hid hs1;rw[hs1] at HST;clear hs1;generalize BR L k=s0 at*;generalize Dx L[k]=nn at*;generalize Dq L[k] (L.take k)=ap at*;generalize L[k]=X at*;clear hb xl hmono hstep;rcases hg:(false&&s0) with _ | _
     ·have hfin:=hid (HMO.out hg)
      clear hg;go_wp2_with fail
      (try simp only[Exit.noGoto])
      (try go_wp2_with fail)
      go_ret;exact⟨zAs,HBW.out⟩
     ·exfalso;simp at hg
    ·obtain rfl:k=L.length:=by omega
     have d1:decide ((L.length:Int)<(L.length:Int))=false:=Ae zD;clear hb;go_wp2_with fail
     (try simp only[Exit.noGoto])
     (try go_wp2_with fail)
     go_ret;exact⟨by rw[hff.out];first | done | rfl | (simp;done) | simp[Exit.noGoto],HBW.out⟩
 ·have d1':decide (lo<hi)=false:=Ae h1
  have hG:decide (lo<hi∧hi≤4611686018427387904∧1≤L.length∧L.length≤8)=false:=Ae zD;go_enter Tryz.func341,Tryz.ntmps341;have hff:Hid (Dc ⟨lo,hi,L⟩=(false&&BR L L.length)):=hid Z7;have x0:(w.alloc (.cells #[.int .u64 lo,.int .u64 hi,.slice a L.length c] 219)).cell? ⟨w.heap.size,2,none⟩=some (.slice a L.length c):=zN;have hb0:Below w.heap.size w (w.alloc (.cells #[.int .u64 lo,.int .u64 hi,.slice a L.length c] 219)):=zB;have hs0:w.heap.size<(w.alloc (.cells #[.int .u64 lo,.int .u64 hi,.slice a L.length c] 219)).heap.size:=zN;go_wp2_with fail;refine Lw ?_;go_wp2_with fail;refine wp_label ?_;go_wp2_with fail;generalize w.alloc (.cells #[.int .u64 lo,.int .u64 hi,.slice a L.length c] 219)=w0 at*;have HB0:=hid hb0;clear hb0;go_loopw [3,31] (fun g i wr=>∃k:Nat,k≤L.length∧i=.int .i64 k∧g=.bool (false&&BR L k)∧Below w0.heap.size w0 wr) (fun _ i _=>L.length-(intOf i).toNat)
  case atStart=>exact ⟨0,Am _,rfl,zCk,Below.refl _ _⟩
  case round=>
   obtain⟨k,hk,rfl,rfl,hb⟩:=hrel;have HB:=hid hb;have HBW:=hid (HB0.out.trans (hb.mono HB0.out.size));have hsz:=hb.size;by_cases hlt:k<L.length
   ·have i1:(k:Int)<(L.length:Int):=by omega
    have i2:(k:Int)≤(c:Int):=zD;have d1:decide ((k:Int)<(L.length:Int))=true:=Ad i1;have X0:=(hb.cell (p:=⟨w.heap.size,2,none⟩) hs0).trans x0;obtain⟨b,o,hA,hbb,ak,ck,u0,xl⟩:=GQ (lift HL.out HBW.out) hlt;subst hA;have hmono:(false&&BR L k)=false→(false&&BR L L.length)=false:=fun _=>rfl;have hstep:BR L (k+1)=(BR L k&&(Dx L[k]&&Dq L[k] (L.take k))):=by
     show (BR L k&&Iv L k)=_
     unfold Iv;rw[Jg L k [] hlt]
    have HN:=hid (FO L[k] ak _ ck wr xl);have HAP:=hid (fun (W:World) (hW:Below wr.heap.size wr W)=>Ez L[k] (L.take k) ak _ ck (some ⟨b,o,none⟩) k c W (lift xl hW) (Ic (lift (lift HL.out HBW.out) hW) zD));have HMO:=hid hmono;have HST:=hid hstep;have hc0:k≤c:=zD;obtain⟨s1,hs1⟩:∃s1,BR L (k+1)=s1:=⟨_,rfl⟩;have HS1:=hid hs1;rw[hs1] at HST;clear hs1;generalize BR L k=s0 at*;generalize Dx L[k]=nn at*;generalize Dq L[k] (L.take k)=ap at*;generalize L[k]=X at*;clear hb xl hmono hstep;rcases hg:(false&&s0) with _ | _
    ·have hfin:=hid (HMO.out hg)
     clear hg;go_wp2_with fail
     (try simp only[Exit.noGoto])
     (try go_wp2_with fail)
     go_ret;exact⟨zAs,HBW.out⟩
    ·exfalso;simp at hg
   ·obtain rfl:k=L.length:=by omega
    have d1:decide ((L.length:Int)<(L.length:Int))=false:=Ae zD;clear hb;go_wp2_with fail
    (try simp only[Exit.noGoto])
    (try go_wp2_with fail)
    go_ret;exact⟨by rw[hff.out];first | done | rfl | (simp;done) | simp[Exit.noGoto],HBW.out⟩
theorem UB(l:List BV)(p:Int)(k:Nat)(h:k<l.length):FE p (l.drop k)=(decide (l[k].lo=p)&&(Dc l[k]&&FE l[k].hi (l.drop (k+1)))):=by
 rw[AS h];rfl
theorem NZ(ep:Int)(l:List BV)(a:Option Addr)(n c:Nat)(w:World)(hl:Bq.r (·<w.heap.size) w [.slice a n c] l):
  Calls Tryz.prog 290 #[.agg #[.int .u64 ep,.slice a n c]] w fun r w'=>r=.returned (.bool (DG ⟨ep,l⟩))∧Below w.heap.size w w':=by
 obtain⟨rfl,hm,hcc,hcm⟩:=AT hl;have HL:=hid hl;have HE:=hid (fun W:World=>GK ep W);have hP:DG ⟨ep,l⟩=(epR ep&&(decide (1≤l.length∧l.length≤64)&&FE 0 l)):=rfl;generalize epR ep=E at*;clear hl;cases E
 ·have hff:Hid (DG ⟨ep,l⟩=false):=hid (by rw[hP];rfl)
  clear hP;go_enter Tryz.func290,Tryz.ntmps290;go_wp2_with fail;refine (HE.out _).mono ?_;rintro r w1 ⟨rfl,rfl⟩;go_wp2_with fail;go_ret;exact⟨zM,zB⟩
 ·by_cases h1:1≤l.length
  ·have d1:decide ((l.length:Int)<1)=false:=Ae zD
   by_cases h2:l.length≤64
   ·have d2:decide ((64:Int)<(l.length:Int))=false:=Ae zD
    have hff0:Hid (DG ⟨ep,l⟩=FE 0 (l.drop 0)):=hid (by rw[hP,Ad (⟨h1,h2⟩:1≤l.length∧l.length≤64)];simp);have x1:(w.alloc (.cells #[.int .u64 ep,.slice a l.length c] 43)).cell? ⟨w.heap.size,1,none⟩=some (.slice a l.length c):=zN;have hb0:Below w.heap.size w (w.alloc (.cells #[.int .u64 ep,.slice a l.length c] 43)):=zB;clear hP;go_enter Tryz.func290,Tryz.ntmps290;go_wp2_with fail;refine (HE.out _).mono ?_;rintro r w1 ⟨rfl,rfl⟩;go_wp2_with fail;generalize (w.alloc (.cells #[.int .u64 ep,.slice a l.length c] 43))=w0 at*;have HB0:=hid hb0;clear hb0 x1;go_loopw [3,25] (fun f i wr=>∃(k:Nat) (p:Int),k≤l.length∧i=.int .i64 k∧f=.int .u64 p∧Hid (DG ⟨ep,l⟩=FE p (l.drop k))∧Below w0.heap.size w0 wr) (fun _ i _=>l.length-(intOf i).toNat)
    case atStart=>exact ⟨0,0,Am _,rfl,rfl,hff0,Below.refl _ _⟩
    case round=>
     obtain⟨k,p,hk,rfl,rfl,hf,hb⟩:=hrel;have HBW:=hid (HB0.out.trans (hb.mono HB0.out.size));have HB:=hid hb;by_cases hlt:k<l.length
     ·have i1:(k:Int)<(l.length:Int):=by omega
      have e0:decide ((k:Int)<(l.length:Int))=true:=Ad i1;obtain⟨b,o,hA,hbb,ak,ck,u0,u1,u2,ub0,ub1,xl⟩:=Ge (lift HL.out HBW.out) hlt;subst hA;have hst:=hid (UB l p k hlt);have HR:=hid (fun (W:World) (hW:Below wr.heap.size wr W)=>KY l[k].lo l[k].hi l[k].sets ak _ ck W (lift xl hW));have hbl:b<wr.heap.size:=CN _ _ u0;clear hb xl;generalize l[k]=X at*;have hX:(⟨X.lo,X.hi,X.sets⟩:BV)=X:=rfl;simp only[hX] at HR;by_cases hlo:X.lo=p
      ·have e1:(X.lo !=p)=false:=by simp[hlo]
       generalize Dc X=R at*;cases R
       ·have hff:Hid (DG ⟨ep,l⟩=false):=hid (by rw[hf.out,hst.out];simp)
        clear hlo hX;go_wp2_with fail;refine (HR.out _ zA).mono ?_;rintro r w3 ⟨rfl,hb3⟩;have hbe:Below w0.heap.size w0 w3:=Af hb3 (AH HB.out _);have hbf:Below w.heap.size w w3:=HB0.out.trans (hbe.mono HB0.out.size);go_wp2_with fail;go_ret;exact⟨zM,hbf⟩
       ·have hff:Hid (DG ⟨ep,l⟩=FE X.hi (l.drop (k+1))):=hid (by rw[hf.out,hst.out,Ad hlo];rfl)
        clear hlo hX;go_wp2_with fail;refine (HR.out _ zA).mono ?_;rintro r w3 ⟨rfl,hb3⟩;have z1:=hb3.cell (p:=⟨wr.heap.size,1,none⟩) zN;simp at z1;have hbe:Below w0.heap.size w0 w3:=Af hb3 (AH HB.out _);clear hb3;go_wp2_with fail;go_roundw
        case rel=>exact ⟨k+1,X.hi,zD,zV,rfl,hff,hbe⟩
        case measure=>(simp[intOf];try omega)
      ·have e1:(X.lo !=p)=true:=by simpa using hlo
       have hff:Hid (DG ⟨ep,l⟩=false):=hid (by rw[hf.out,hst.out,Ae hlo];rfl);clear hlo hX;go_wp2_with fail;go_ret;exact⟨zM,by have:=HBW.out;(repeat (first | with_reducible exact Below.refl _ _ | with_reducible assumption | (with_reducible refine AH ?_ _) | (with_reducible refine Below.setCell ?_ (by first | omega | (simp;done) | (simp;omega)) _) | (with_reducible refine Below.drew ?_) | (with_reducible refine below_drewN ?_ _) | (refine Af (by with_reducible assumption) ?_)))⟩
     ·obtain rfl:k=l.length:=by omega
      have e0:decide ((l.length:Int)<(l.length:Int))=false:=Ae zD;have hff:Hid (DG ⟨ep,l⟩=decide (p=4611686018427387904)):=hid Z9;have hbq:(p==4611686018427387904)=decide (p=4611686018427387904):=by
       by_cases h:p=4611686018427387904
       ·subst h;rfl
       ·rw[Ae h];simpa using h
      generalize decide (p=4611686018427387904)=Q at*;clear hb;go_wp2_with fail;go_ret;exact⟨by rw[hff.out];first | rfl | (rw[←hbq];rfl) | (simp only[hbq];rfl),HBW.out⟩
   ·have d2:decide ((64:Int)<(l.length:Int))=true:=Ad zD
    have hff:Hid (DG ⟨ep,l⟩=false):=hid (by rw[hP,Ae (fun h=>h2 h.2:¬(1≤l.length∧l.length≤64))];rfl);clear hP h2;go_enter Tryz.func290,Tryz.ntmps290;go_wp2_with fail;refine (HE.out _).mono ?_;rintro r w1 ⟨rfl,rfl⟩;go_wp2_with fail;go_ret;exact⟨zM,zB⟩
  ·have d1:decide ((l.length:Int)<1)=true:=Ad zD
   have hff:Hid (DG ⟨ep,l⟩=false):=hid (by rw[hP,Ae (fun h=>h1 h.1:¬(1≤l.length∧l.length≤64))];rfl);clear hP h1;go_enter Tryz.func290,Tryz.ntmps290;go_wp2_with fail;refine (HE.out _).mono ?_;rintro r w1 ⟨rfl,rfl⟩;go_wp2_with fail;go_ret;exact⟨zM,zB⟩
open Go.RowKit Go.Bs
def kT:Array Value:=#[.string ⟨#[]⟩,.int .i64 0,.int .i64 0,.string ⟨#[114,101,97,100]⟩,.int .i64 1,.int .i64 9,.string ⟨#[119,114,105,116,101]⟩,.int .i64 33,.int .i64 10,.string ⟨#[115,101,97,108]⟩,.int .i64 0,.int .i64 11,.string ⟨#[116,114,105,109]⟩,.int .i64 1,.int .i64 10,.string ⟨#[102,105,108,108]⟩,.int .i64 1,.int .i64 10,.string ⟨#[116,97,107,101]⟩,.int .i64 10,.int .i64 12,.string ⟨#[103,101,116]⟩,.int .i64 0,.int .i64 13,.string ⟨#[112,117,116]⟩,.int .i64 128,.int .i64 10,.string ⟨#[118,97,108,117,101]⟩,.int .i64 36,.int .i64 0,.string ⟨#[100,111,110,101]⟩,.int .i64 0,.int .i64 0,.string ⟨#[115,101,97,108,101,100]⟩,.int .i64 64,.int .i64 0,.string ⟨#[116,97,107,101,110]⟩,.int .i64 17,.int .i64 0,.string ⟨#[112,114,111,106]⟩,.int .i64 128,.int .i64 0,.string ⟨#[102,97,105,108,101,100]⟩,.int .i64 4,.int .i64 0]
def kZ:Array Value:=#[.string ⟨#[]⟩,.int .i64 0,.int .i64 0,.string ⟨#[]⟩,.int .i64 0,.int .i64 0,.string ⟨#[]⟩,.int .i64 0,.int .i64 0,.string ⟨#[]⟩,.int .i64 0,.int .i64 0,.string ⟨#[]⟩,.int .i64 0,.int .i64 0,.string ⟨#[]⟩,.int .i64 0,.int .i64 0,.string ⟨#[]⟩,.int .i64 0,.int .i64 0,.string ⟨#[]⟩,.int .i64 0,.int .i64 0,.string ⟨#[]⟩,.int .i64 0,.int .i64 0,.string ⟨#[]⟩,.int .i64 0,.int .i64 0,.string ⟨#[]⟩,.int .i64 0,.int .i64 0,.string ⟨#[]⟩,.int .i64 0,.int .i64 0,.string ⟨#[]⟩,.int .i64 0,.int .i64 0,.string ⟨#[]⟩,.int .i64 0,.int .i64 0,.string ⟨#[]⟩,.int .i64 0,.int .i64 0]
theorem Bz{P:Program}{o:Oper}{a:Act}{K:Act→World→Prop}{Q:Exit→Act→World→Prop}{r:Result Next}(h:r=.ok (.value v) w')(hk:K (a.put o.dst v) w'):o.upon P a K Q r:=by rw[h];exact hk
theorem VN{P:Program}{o:Oper}{a:Act}{K:Act→World→Prop}{Q:Exit→Act→World→Prop}{r:Result Next}(h:r=.ok .skip w')(hk:K (a.put o.dst undef) w'):o.upon P a K Q r:=by rw[h];exact hk
theorem Un(w:World):Calls Tryz.prog 370 #[] w fun r w'=>r=.returned (.agg kT)∧Below w.heap.size w w':=by
 go_enter Tryz.func370,Tryz.ntmps370;go_upto_region 1 with (fail);refine wp_region_lit ?_;generalize hW1:w.alloc (.cells _ 376)=W1;have hW2:W1=w.alloc (.cells kZ 376):=hW1.symm.trans rfl;clear hW1;refine Bg rfl fun K hK=> ?_;unfold Oper.wp;refine Bz (v:=(.agg #[.string ⟨#[114,101,97,100]⟩,.int .i64 1,.int .i64 9])) (w':=W1) zI ?_;refine hK _ _ ?_;clear hK K;simp only[Act.put,Aa,Ab,Ac];refine Bg rfl fun K hK=> ?_;unfold Oper.wp;refine Bz (v:=(.agg #[.string ⟨#[119,114,105,116,101]⟩,.int .i64 33,.int .i64 10])) (w':=W1) zI ?_;refine hK _ _ ?_;clear hK K;simp only[Act.put,Aa,Ab,Ac];refine Bg rfl fun K hK=> ?_;unfold Oper.wp;refine Bz (v:=(.agg #[.string ⟨#[115,101,97,108]⟩,.int .i64 0,.int .i64 11])) (w':=W1) zI ?_;refine hK _ _ ?_;clear hK K;simp only[Act.put,Aa,Ab,Ac];refine Bg rfl fun K hK=> ?_;unfold Oper.wp;refine Bz (v:=(.agg #[.string ⟨#[116,114,105,109]⟩,.int .i64 1,.int .i64 10])) (w':=W1) zI ?_;refine hK _ _ ?_;clear hK K;simp only[Act.put,Aa,Ab,Ac];refine Bg rfl fun K hK=> ?_;unfold Oper.wp;refine Bz (v:=(.agg #[.string ⟨#[102,105,108,108]⟩,.int .i64 1,.int .i64 10])) (w':=W1) zI ?_;refine hK _ _ ?_;clear hK K;simp only[Act.put,Aa,Ab,Ac];refine Bg rfl fun K hK=> ?_;unfold Oper.wp;refine Bz (v:=(.agg #[.string ⟨#[116,97,107,101]⟩,.int .i64 10,.int .i64 12])) (w':=W1) zI ?_;refine hK _ _ ?_;clear hK K;simp only[Act.put,Aa,Ab,Ac];refine Bg rfl fun K hK=> ?_;unfold Oper.wp;refine Bz (v:=(.agg #[.string ⟨#[103,101,116]⟩,.int .i64 0,.int .i64 13])) (w':=W1) zI ?_;refine hK _ _ ?_;clear hK K;simp only[Act.put,Aa,Ab,Ac];refine Bg rfl fun K hK=> ?_;unfold Oper.wp;refine Bz (v:=(.agg #[.string ⟨#[112,117,116]⟩,.int .i64 128,.int .i64 10])) (w':=W1) zI ?_;refine hK _ _ ?_;clear hK K;simp only[Act.put,Aa,Ab,Ac];refine Bg rfl fun K hK=> ?_;unfold Oper.wp;refine Bz (v:=(.agg #[.string ⟨#[118,97,108,117,101]⟩,.int .i64 36,.int .i64 0])) (w':=W1) zI ?_;refine hK _ _ ?_;clear hK K;simp only[Act.put,Aa,Ab,Ac];refine Bg rfl fun K hK=> ?_;unfold Oper.wp;refine Bz (v:=(.agg #[.string ⟨#[100,111,110,101]⟩,.int .i64 0,.int .i64 0])) (w':=W1) zI ?_;refine hK _ _ ?_;clear hK K;simp only[Act.put,Aa,Ab,Ac];refine Bg rfl fun K hK=> ?_;unfold Oper.wp;refine Bz (v:=(.agg #[.string ⟨#[115,101,97,108,101,100]⟩,.int .i64 64,.int .i64 0])) (w':=W1) zI ?_;refine hK _ _ ?_;clear hK K;simp only[Act.put,Aa,Ab,Ac];refine Bg rfl fun K hK=> ?_;unfold Oper.wp;refine Bz (v:=(.agg #[.string ⟨#[116,97,107,101,110]⟩,.int .i64 17,.int .i64 0])) (w':=W1) zI ?_;refine hK _ _ ?_;clear hK K;simp only[Act.put,Aa,Ab,Ac];refine Bg rfl fun K hK=> ?_;unfold Oper.wp;refine Bz (v:=(.agg #[.string ⟨#[112,114,111,106]⟩,.int .i64 128,.int .i64 0])) (w':=W1) zI ?_;refine hK _ _ ?_;clear hK K;simp only[Act.put,Aa,Ab,Ac];refine Bg rfl fun K hK=> ?_;unfold Oper.wp;refine Bz (v:=(.agg #[.string ⟨#[102,97,105,108,101,100]⟩,.int .i64 4,.int .i64 0])) (w':=W1) zI ?_;refine hK _ _ ?_;clear hK K;simp only[Act.put,Aa,Ab,Ac];refine Bg rfl fun K hK=> ?_;unfold Oper.wp;refine Bz (v:=.agg kT) (w':=W1) zI ?_;subst hW2;refine hK _ _ ?_;clear hK K;simp only[Act.put,Aa,Ab,Ac];have h:=run_storeAt_new (P:=Tryz.prog) w 376 kZ kT zI zS zI;have hld:=run_loadVar_new (P:=Tryz.prog) w 376 kT 15 368 Tryz.underlying376 zI;generalize hS:kT=S at*;generalize kZ=Z at*;have HS:=hid hS;clear hS;refine Bg rfl fun K hK=> ?_;unfold Oper.wp;refine VN (w':=w.alloc (.cells S 376)) ?_ ?_
 ·simp only[execOp,Act.eval,Act.put,Sem.run_bind]
  change (Sem.run Tryz.prog (Instr.storeAt 376 (.pointer (some ⟨w.heap.size,0,none⟩)) (.agg S)) (w.alloc (.cells Z 376))).andThen _=_;rw[h];rfl
 refine hK _ _ ?_;clear hK K
 (try simp only[Act.put,Aa,Ab,Ac])
 refine wpList_nil ?_;go_wp2_with fail;refine Al (v:=.agg S) ?_ rfl ⟨by rw[HS.out],zB⟩;simp[results,Tryz.results370,hld,Act.put,asAddr,Result.andThen]
def Aca(c:Nat):Value:=match c with
 | 0=> .agg #[.string ⟨#[]⟩,.int .i64 0,.int .i64 0]
 | 1=> .agg #[.string ⟨#[114,101,97,100]⟩,.int .i64 1,.int .i64 9]
 | 2=> .agg #[.string ⟨#[119,114,105,116,101]⟩,.int .i64 33,.int .i64 10]
 | 3=> .agg #[.string ⟨#[115,101,97,108]⟩,.int .i64 0,.int .i64 11]
 | 4=> .agg #[.string ⟨#[116,114,105,109]⟩,.int .i64 1,.int .i64 10]
 | 5=> .agg #[.string ⟨#[102,105,108,108]⟩,.int .i64 1,.int .i64 10]
 | 6=> .agg #[.string ⟨#[116,97,107,101]⟩,.int .i64 10,.int .i64 12]
 | 7=> .agg #[.string ⟨#[103,101,116]⟩,.int .i64 0,.int .i64 13]
 | 8=> .agg #[.string ⟨#[112,117,116]⟩,.int .i64 128,.int .i64 10]
 | 9=> .agg #[.string ⟨#[118,97,108,117,101]⟩,.int .i64 36,.int .i64 0]
 | 10=> .agg #[.string ⟨#[100,111,110,101]⟩,.int .i64 0,.int .i64 0]
 | 11=> .agg #[.string ⟨#[115,101,97,108,101,100]⟩,.int .i64 64,.int .i64 0]
 | 12=> .agg #[.string ⟨#[116,97,107,101,110]⟩,.int .i64 17,.int .i64 0]
 | 13=> .agg #[.string ⟨#[112,114,111,106]⟩,.int .i64 128,.int .i64 0]
 | 14=> .agg #[.string ⟨#[102,97,105,108,101,100]⟩,.int .i64 4,.int .i64 0]
 | _=> .nilFunc
theorem AaH:∀c:Nat,c<15→∃s a,Aca c=.agg #[.string s,.int .i64 ((D7 (c:Int):Nat):Int),.int .i64 a]
 | 0,_=>⟨_,_,rfl⟩
 | 1,_=>⟨_,_,rfl⟩
 | 2,_=>⟨_,_,rfl⟩
 | 3,_=>⟨_,_,rfl⟩
 | 4,_=>⟨_,_,rfl⟩
 | 5,_=>⟨_,_,rfl⟩
 | 6,_=>⟨_,_,rfl⟩
 | 7,_=>⟨_,_,rfl⟩
 | 8,_=>⟨_,_,rfl⟩
 | 9,_=>⟨_,_,rfl⟩
 | 10,_=>⟨_,_,rfl⟩
 | 11,_=>⟨_,_,rfl⟩
 | 12,_=>⟨_,_,rfl⟩
 | 13,_=>⟨_,_,rfl⟩
 | 14,_=>⟨_,_,rfl⟩
 | n+15,h=>absurd h zD
theorem AaG(W:World):∀c:Nat,c<15→(Instr.index 376 (.agg kT) (.int .i64 (c:Int))).run Tryz.prog W=.ok (Aca c) W
 | 0,_=>by kernel_rfl
 | 1,_=>by kernel_rfl
 | 2,_=>by kernel_rfl
 | 3,_=>by kernel_rfl
 | 4,_=>by kernel_rfl
 | 5,_=>by kernel_rfl
 | 6,_=>by kernel_rfl
 | 7,_=>by kernel_rfl
 | 8,_=>by kernel_rfl
 | 9,_=>by kernel_rfl
 | 10,_=>by kernel_rfl
 | 11,_=>by kernel_rfl
 | 12,_=>by kernel_rfl
 | 13,_=>by kernel_rfl
 | 14,_=>by kernel_rfl
 | n+15,h=>absurd h zD
theorem Jd(k:Int)(w:World):Calls Tryz.prog 247 #[.int .i64 k] w fun r w'=>r=.returned (.bool (decide (1≤k∧k≤14)))∧w=w':=by
 by_cases h0:1≤k
 ·by_cases h1:k≤14
  ·have d1:decide ((1:Int)≤k)=true:=Ad h0
   have d2:decide (k≤14)=true:=Ad h1;rw[Ad (⟨h0,h1⟩:1≤k∧k≤14)];go_enter Tryz.func247,Tryz.ntmps247;go_wp2;go_ret;exact⟨rfl,rfl⟩
  ·have d1:decide ((1:Int)≤k)=true:=Ad h0
   have d2:decide (k≤14)=false:=Ae h1;rw[Ae (fun h=>h1 h.2:¬(1≤k∧k≤14))];go_enter Tryz.func247,Tryz.ntmps247;go_wp2;go_ret;exact⟨rfl,rfl⟩
 ·have d1:decide ((1:Int)≤k)=false:=Ae h0
  rw[Ae (fun h=>h0 h.1:¬(1≤k∧k≤14))];go_enter Tryz.func247,Tryz.ntmps247;go_wp2;go_ret;exact⟨rfl,rfl⟩
theorem AaF(k:Int)(w:World):Calls Tryz.prog 361 #[.int .i64 k] w fun r w'=>(∃s a,r=.returned (.agg #[.string s,.int .i64 ((D7 k:Nat):Int),.int .i64 a]))∧Below w.heap.size w w':=by
 have HR:=hid (fun (W:World)=>Jd k W);have HW:=hid Un;by_cases h:1≤k∧k≤14
 ·obtain⟨c,rfl⟩:∃c:Nat,k=c:=⟨k.toNat,zD⟩
  rw[Ad h] at HR;have hix:=fun W=>AaG W c zD;obtain⟨s,a,hrow⟩:=AaH c zD;simp only[hrow] at hix;generalize D7 (c:Int)=q at*;generalize kT=S at*;clear h hrow;go_enter Tryz.func361,Tryz.ntmps361;go_wp2_with fail;refine (HR.out _).mono ?_;rintro r w1 ⟨rfl,rfl⟩;go_wp2_with fail;refine (HW.out _).mono ?_;rintro r w1 ⟨rfl,hb1⟩;have hs1:=hb1.size;have lt1:w.heap.size<w1.heap.size:=by simp at hs1;omega
  have x0:=hb1.cell (p:=⟨w.heap.size,0,none⟩) zN;have x1:=hb1.cell (p:=⟨w.heap.size,1,none⟩) zN;have x2:=hb1.cell (p:=⟨w.heap.size,2,none⟩) zN;have f0:=hb1.frozen (p:=⟨w.heap.size,0,none⟩) zN;have f1:=hb1.frozen (p:=⟨w.heap.size,1,none⟩) zN;have f2:=hb1.frozen (p:=⟨w.heap.size,2,none⟩) zN;simp at x0 x1 x2 f0 f1 f2;have HB1:=hid hb1;clear hb1 hs1;go_wp2_with fail;refine Al (v:=.agg #[.string s,.int .i64 ((q:Nat):Int),.int .i64 a]) (by simp[results,Tryz.results361,go_sem,lt1,x0,x1,x2]) rfl ⟨⟨s,a,rfl⟩,?_⟩;have:=HB1.out.mono (show w.heap.size≤_ from zN);exact (((((Below.refl w.heap.size w).alloc (An _) _).trans this).setCell (An _) _).setCell (An _) _).setCell (An _) _
 ·rw[Ae h] at HR
  have hq:Hid (D7 k=0):=hid (by unfold D7;rw[Ai (by omega)]);clear h;go_enter Tryz.func361,Tryz.ntmps361;go_wp2_with fail;refine (HR.out _).mono ?_;rintro r w1 ⟨rfl,rfl⟩;go_wp2_with fail;refine Al (v:=.agg #[.string (⟨#[]⟩:ByteArray),.int .i64 0,.int .i64 0]) (by simp[results,Tryz.results361,go_sem]) rfl ⟨⟨(⟨#[]⟩:ByteArray),0,by rw[hq.out];rfl⟩,zB⟩
theorem Yu(W:World)(s:ByteArray)(q a:Int):(Instr.field 368 (.agg #[.string s,.int .i64 q,.int .i64 a]) 1).run Tryz.prog W=.ok (.int .i64 q) W:=zI
theorem Sf(W:World)(s:ByteArray)(q a:Int):(Instr.field 333 (.agg #[.string s,.int .i64 q,.int .i64 a]) 1).run Tryz.prog W=.ok (.int .i64 q) W:=zI
theorem Uo(k:Int)(w:World):Calls Tryz.prog 342 #[.int .i64 k] w fun r w'=>r=.returned (.int .i64 ((D7 k:Nat):Int))∧Below w.heap.size w w':=by
 have HO:=hid (fun (W:World)=>AaF k W);generalize D7 k=q at*;go_enter Tryz.func342,Tryz.ntmps342;go_wp2_with fail;refine (HO.out _).mono ?_;rintro r w1 ⟨⟨s,a,rfl⟩,hb1⟩;have hfd:=fun (W:World)=>Yu W s ((q:Nat):Int) a;go_wp2_with fail;go_ret;exact⟨rfl,hb1⟩
theorem QK(k:Int):D7 k≤128:=by
 have:=N6 k;simp at this;omega
def KE(p:Nat):Prop:=p∈[1,2,4,8,16,32,64,128]
theorem XZ:∀q∈[0,1,33,10,128,36,64,17,4],∀p∈[1,2,4,8,16,32,64,128],(bits .and .i64 ((q:Nat):Int) ((p:Nat):Int) !=0)=(q/p%2==1)∧bits .and .i64 ((p:Nat):Int) ((p:Nat)-1:Int)=0:=zE
theorem Vi(h:KE p):0<p∧p≤128:=by
 simp[KE] at h;omega
theorem DA(k:Int)(p:Nat)(hp:KE p)(w:World):Calls Tryz.prog 293 #[.int .i64 k,.int .i64 (p:Int)] w fun r w'=>r=.returned (.bool (AE k p))∧Below w.heap.size w w':=by
 have HP:=hid (fun (W:World)=>Uo k W);obtain⟨hb1,hb2⟩:=XZ _ (N6 k) _ hp;have hpi:=Vi hp;have d1:decide ((0:Int)<(p:Int))=true:=Ad zD;have d2:decide ((p:Int)≤128)=true:=Ad zD;have w1:0≤(p:Int)-1:=zD;have HH:Hid (AE k p=(bits .and .i64 ((D7 k:Nat):Int) (p:Int) !=0)):=hid hb1.symm;generalize AE k p=hh at*;generalize D7 k=q at*;obtain⟨x,hx⟩:∃x,bits .and .i64 ((q:Nat):Int) (p:Int)=x:=⟨_,rfl⟩;rw[hx] at HH;have d3:(bits .and .i64 (p:Int) ((p:Int)-1)==0)=true:=by rw[hb2];rfl
 clear hb1 hp;go_enter Tryz.func293,Tryz.ntmps293;go_wp2_with fail;refine (HP.out _).mono ?_;rintro r w1 ⟨rfl,hb1⟩;go_wp2_with fail;go_ret;exact⟨by rw[HH.out];rfl,hb1⟩
def lT:Array Value:=#[.string ⟨#[114,101,97,100]⟩,.int .i64 1,.int .i64 9,.string ⟨#[119,114,105,116,101]⟩,.int .i64 33,.int .i64 10,.string ⟨#[115,101,97,108]⟩,.int .i64 0,.int .i64 11,.string ⟨#[116,114,105,109]⟩,.int .i64 1,.int .i64 10,.string ⟨#[102,105,108,108]⟩,.int .i64 1,.int .i64 10,.string ⟨#[116,97,107,101]⟩,.int .i64 10,.int .i64 12,.string ⟨#[103,101,116]⟩,.int .i64 0,.int .i64 13,.string ⟨#[112,117,116]⟩,.int .i64 128,.int .i64 10,.string ⟨#[118,97,108,117,101]⟩,.int .i64 36,.int .i64 0,.string ⟨#[100,111,110,101]⟩,.int .i64 0,.int .i64 0,.string ⟨#[115,101,97,108,101,100]⟩,.int .i64 64,.int .i64 0,.string ⟨#[116,97,107,101,110]⟩,.int .i64 17,.int .i64 0,.string ⟨#[112,114,111,106]⟩,.int .i64 128,.int .i64 0,.string ⟨#[102,97,105,108,101,100]⟩,.int .i64 4,.int .i64 0]
theorem AbC:∀c:Nat,c<14→∃s a,lT[c*3]? =some (.string s)∧lT[c*3+1]? =some (.int .i64 ((D7 ((c:Int)+1):Nat):Int))∧lT[c*3+2]? =some (.int .i64 a)
 | 0,_=>⟨_,_,rfl,rfl,rfl⟩
 | 1,_=>⟨_,_,rfl,rfl,rfl⟩
 | 2,_=>⟨_,_,rfl,rfl,rfl⟩
 | 3,_=>⟨_,_,rfl,rfl,rfl⟩
 | 4,_=>⟨_,_,rfl,rfl,rfl⟩
 | 5,_=>⟨_,_,rfl,rfl,rfl⟩
 | 6,_=>⟨_,_,rfl,rfl,rfl⟩
 | 7,_=>⟨_,_,rfl,rfl,rfl⟩
 | 8,_=>⟨_,_,rfl,rfl,rfl⟩
 | 9,_=>⟨_,_,rfl,rfl,rfl⟩
 | 10,_=>⟨_,_,rfl,rfl,rfl⟩
 | 11,_=>⟨_,_,rfl,rfl,rfl⟩
 | 12,_=>⟨_,_,rfl,rfl,rfl⟩
 | 13,_=>⟨_,_,rfl,rfl,rfl⟩
 | n+14,h=>absurd h zD
theorem XF(k:Int)(w:World):Calls Tryz.prog 320 #[.int .i64 k] w fun r w'=>(∃s a,r=.returned (.agg #[.string s,.int .i64 ((D7 k:Nat):Int),.int .i64 a]))∧Below w.heap.size w w':=by
 go_enter Tryz.func320,Tryz.ntmps320;go_upto_region 1 with (fail);refine wp_region_lit ?_;generalize hW1:w.alloc (.cells _ 333)=W1;have HW1:=hid hW1;clear hW1;refine Bg rfl fun K hK=> ?_;unfold Oper.wp;refine Bz (v:=(.agg #[.string ⟨#[114,101,97,100]⟩,.int .i64 1,.int .i64 9])) (w':=W1) zI ?_;refine hK _ _ ?_;clear hK K;simp only[Act.put,Aa,Ab,Ac];refine Bg rfl fun K hK=> ?_;unfold Oper.wp;refine Bz (v:=(.agg #[.string ⟨#[119,114,105,116,101]⟩,.int .i64 33,.int .i64 10])) (w':=W1) zI ?_;refine hK _ _ ?_;clear hK K;simp only[Act.put,Aa,Ab,Ac];refine Bg rfl fun K hK=> ?_;unfold Oper.wp;refine Bz (v:=(.agg #[.string ⟨#[115,101,97,108]⟩,.int .i64 0,.int .i64 11])) (w':=W1) zI ?_;refine hK _ _ ?_;clear hK K;simp only[Act.put,Aa,Ab,Ac];refine Bg rfl fun K hK=> ?_;unfold Oper.wp;refine Bz (v:=(.agg #[.string ⟨#[116,114,105,109]⟩,.int .i64 1,.int .i64 10])) (w':=W1) zI ?_;refine hK _ _ ?_;clear hK K;simp only[Act.put,Aa,Ab,Ac];refine Bg rfl fun K hK=> ?_;unfold Oper.wp;refine Bz (v:=(.agg #[.string ⟨#[102,105,108,108]⟩,.int .i64 1,.int .i64 10])) (w':=W1) zI ?_;refine hK _ _ ?_;clear hK K;simp only[Act.put,Aa,Ab,Ac];refine Bg rfl fun K hK=> ?_;unfold Oper.wp;refine Bz (v:=(.agg #[.string ⟨#[116,97,107,101]⟩,.int .i64 10,.int .i64 12])) (w':=W1) zI ?_;refine hK _ _ ?_;clear hK K;simp only[Act.put,Aa,Ab,Ac];refine Bg rfl fun K hK=> ?_;unfold Oper.wp;refine Bz (v:=(.agg #[.string ⟨#[103,101,116]⟩,.int .i64 0,.int .i64 13])) (w':=W1) zI ?_;refine hK _ _ ?_;clear hK K;simp only[Act.put,Aa,Ab,Ac];refine Bg rfl fun K hK=> ?_;unfold Oper.wp;refine Bz (v:=(.agg #[.string ⟨#[112,117,116]⟩,.int .i64 128,.int .i64 10])) (w':=W1) zI ?_;refine hK _ _ ?_;clear hK K;simp only[Act.put,Aa,Ab,Ac];refine Bg rfl fun K hK=> ?_;unfold Oper.wp;refine Bz (v:=(.agg #[.string ⟨#[118,97,108,117,101]⟩,.int .i64 36,.int .i64 0])) (w':=W1) zI ?_;refine hK _ _ ?_;clear hK K;simp only[Act.put,Aa,Ab,Ac];refine Bg rfl fun K hK=> ?_;unfold Oper.wp;refine Bz (v:=(.agg #[.string ⟨#[100,111,110,101]⟩,.int .i64 0,.int .i64 0])) (w':=W1) zI ?_;refine hK _ _ ?_;clear hK K;simp only[Act.put,Aa,Ab,Ac];refine Bg rfl fun K hK=> ?_;unfold Oper.wp;refine Bz (v:=(.agg #[.string ⟨#[115,101,97,108,101,100]⟩,.int .i64 64,.int .i64 0])) (w':=W1) zI ?_;refine hK _ _ ?_;clear hK K;simp only[Act.put,Aa,Ab,Ac];refine Bg rfl fun K hK=> ?_;unfold Oper.wp;refine Bz (v:=(.agg #[.string ⟨#[116,97,107,101,110]⟩,.int .i64 17,.int .i64 0])) (w':=W1) zI ?_;refine hK _ _ ?_;clear hK K;simp only[Act.put,Aa,Ab,Ac];refine Bg rfl fun K hK=> ?_;unfold Oper.wp;refine Bz (v:=(.agg #[.string ⟨#[112,114,111,106]⟩,.int .i64 128,.int .i64 0])) (w':=W1) zI ?_;refine hK _ _ ?_;clear hK K;simp only[Act.put,Aa,Ab,Ac];refine Bg rfl fun K hK=> ?_;unfold Oper.wp;refine Bz (v:=(.agg #[.string ⟨#[102,97,105,108,101,100]⟩,.int .i64 4,.int .i64 0])) (w':=W1) zI ?_;refine hK _ _ ?_;clear hK K;simp only[Act.put,Aa,Ab,Ac];refine Bg rfl fun K hK=> ?_;unfold Oper.wp;refine Bz (v:=.slice (some ⟨W1.heap.size,0,none⟩) 14 14) (w':=W1.alloc (.cells lT 333)) zI ?_;refine hK _ _ ?_;clear hK K;simp only[Act.put,Aa,Ab,Ac];refine Bg rfl fun K hK=> ?_;unfold Oper.wp;refine Bz (v:=.slice (some ⟨W1.heap.size,0,none⟩) 14 14) (w':=W1.alloc (.cells lT 333)) zI ?_;refine hK _ _ ?_;clear hK K;simp only[Act.put,Aa,Ab,Ac];refine wpList_nil ?_;have hbl:Blk (W1.alloc (.cells lT 333)) W1.heap.size 333 lT:=Blk.new _ _ _;have hs:W1.heap.size=w.heap.size+1:=zAa;have z0:W1.cell? ⟨w.heap.size,0,none⟩=some (.string ⟨#[]⟩):=zAa;have z1:W1.cell? ⟨w.heap.size,1,none⟩=some (.int .i64 0):=zAa;have z2:W1.cell? ⟨w.heap.size,2,none⟩=some (.int .i64 0):=zAa;have y0:W1.frozen? ⟨w.heap.size,0,none⟩=false:=zAa;have y1:W1.frozen? ⟨w.heap.size,1,none⟩=false:=zAa;have y2:W1.frozen? ⟨w.heap.size,2,none⟩=false:=zAa;have hbw:Below w.heap.size w W1:=by rw[←HW1.out];(repeat (first | exact Below.refl _ _ | assumption | (refine AH ?_ _) | (refine Below.setCell ?_ zF _) | (refine Below.drew ?_) | (refine below_drewN ?_ _) | (refine Af zL ?_)))
 have hba:Below W1.heap.size W1 (W1.alloc (.cells lT 333)):=zB;have x0:=(hba.cell (p:=⟨w.heap.size,0,none⟩) zJ).trans z0;have x1:=(hba.cell (p:=⟨w.heap.size,1,none⟩) zJ).trans z1;have x2:=(hba.cell (p:=⟨w.heap.size,2,none⟩) zJ).trans z2;have f0:=(hba.frozen (p:=⟨w.heap.size,0,none⟩) zJ).trans y0;have f1:=(hba.frozen (p:=⟨w.heap.size,1,none⟩) zJ).trans y1;have f2:=(hba.frozen (p:=⟨w.heap.size,2,none⟩) zJ).trans y2;have HB:=hid (hbw.trans (hba.mono zD));have hcell:=fun c (h:c<14)=>(by
  obtain⟨s,a,g0,g1,g2⟩:=AbC c h;exact⟨s,a,(hbl.cell _).trans g0,(hbl.cell _).trans g1,(hbl.cell _).trans g2⟩:∃s a,(W1.alloc (.cells lT 333)).cell? ⟨W1.heap.size,c*3,none⟩=some (.string s)∧(W1.alloc (.cells lT 333)).cell? ⟨W1.heap.size,c*3+1,none⟩=some (.int .i64 ((D7 ((c:Int)+1):Nat):Int))∧(W1.alloc (.cells lT 333)).cell? ⟨W1.heap.size,c*3+2,none⟩=some (.int .i64 a))
 have HC:=hid hcell;have hsz:W1.heap.size<(W1.alloc (.cells lT 333)).heap.size:=zN;generalize W1.alloc (.cells lT 333)=W2 at*;generalize W1.heap.size=g at*;clear hcell hbl z0 z1 z2 y0 y1 y2 hbw hba HW1 W1;have lt2:w.heap.size<W2.heap.size:=zD;have gne:g≠w.heap.size:=zD;clear hs;by_cases h:1≤k∧k≤14
 ·obtain⟨c,rfl⟩:∃c:Nat,k=(c:Int)+1:=⟨(k-1).toNat,zD⟩
  obtain⟨s,a,g0,g1,g2⟩:=HC.out c zD;obtain⟨q,hq⟩:∃q,D7 ((c:Int)+1)=q:=⟨_,rfl⟩;rw[hq] at g1;have HQ:=hid hq;clear hq;have d1:decide ((c:Int)+1<1)=false:=Ae zD;have d2:decide ((14:Int)<(c:Int)+1)=false:=Ae zD;have w1:0≤(c:Int)+1-1:=zD;have i1:(c:Int)<14:=zD;clear h;go_wp2_with fail;refine Al (v:=.agg #[.string s,.int .i64 ((q:Nat):Int),.int .i64 a]) zAq rfl ⟨⟨s,a,by rw[HQ.out]⟩,?_⟩;exact ((HB.out.setCell (An _) _).setCell (An _) _).setCell (An _) _
 ·have hq:Hid (D7 k=0):=hid (by unfold D7;rw[Ai (by omega)])
  by_cases h1:k<1
  ·have d1:decide (k<1)=true:=Ad h1
   clear h h1;go_wp2_with fail;refine Al (v:=.agg #[.string (⟨#[]⟩:ByteArray),.int .i64 0,.int .i64 0]) zAq rfl ⟨⟨(⟨#[]⟩:ByteArray),0,by rw[hq.out];rfl⟩,?_⟩;exact ((HB.out.setCell (An _) _).setCell (An _) _).setCell (An _) _
  ·have d1:decide (k<1)=false:=Ae h1
   have d2:decide ((14:Int)<k)=true:=Ad zD;clear h h1;go_wp2_with fail;refine Al (v:=.agg #[.string (⟨#[]⟩:ByteArray),.int .i64 0,.int .i64 0]) zAq rfl ⟨⟨(⟨#[]⟩:ByteArray),0,by rw[hq.out];rfl⟩,?_⟩;exact ((HB.out.setCell (An _) _).setCell (An _) _).setCell (An _) _
theorem V5(k:Int)(p:Nat)(hp:KE p)(w:World):Calls Tryz.prog 250 #[.int .i64 k,.int .i64 (p:Int)] w fun r w'=>r=.returned (.bool (AE k p))∧Below w.heap.size w w':=by
 have HO:=hid (fun (W:World)=>XF k W);have hkk:AE k p=(D7 k/p%2==1):=rfl;have hqs:=QK k;have hpi:=Vi hp;have hpp:p=1∨p=2∨p=4∨p=8∨p=16∨p=32∨p=64∨p=128:=by simpa [KE] using hp
 generalize D7 k=q at*;generalize AE k p=hh at*;have HK:=hid hkk;clear hkk hp;go_enter Tryz.func250,Tryz.ntmps250;go_wp2_with fail;go_loopw [5] (fun v wr=>∃m:Nat,(m=1∨m=2∨m=4∨m=8∨m=16∨m=32∨m=64∨m=128∨m=256)∧v=.int .i64 (m:Int)∧Hid (m≤p∨hh=false)∧Below w.heap.size w wr) (fun v _=>256-(intOf v).toNat)
 case atStart=>exact ⟨1,.inl rfl,rfl,hid (.inl zD),Below.refl _ _⟩
 case round=>
  obtain⟨m,hm,rfl,hrel,hb⟩:=hrel;by_cases hle:m≤128
  ·have d1:decide ((m:Int)≤128)=true:=Ad zD
   by_cases hmp:m=p
   ·subst hmp
    have d2:((m:Int)==(m:Int))=true:=zN;have dv:0≤(q:Int)/(m:Int)∧(q:Int)/(m:Int)≤128:=by
     have h1:=Nat.div_le_self q m;have h2:(q:Int)/(m:Int)=((q/m:Nat):Int):=zN;rw[h2];exact⟨Int.natCast_nonneg _,by exact_mod_cast A4 h1 hqs⟩
    by_cases hb1:(q/m%2==1)=true
    ·have hh1:Hid (hh=true):=hid (HK.out.trans hb1)
     clear hpp;go_wp2_with fail;refine (HO.out _).mono ?_;rintro r w1 ⟨⟨s,a,rfl⟩,hb2⟩;have hfd:=fun (W:World)=>Sf W s ((q:Nat):Int) a;have hbf:=Af hb2 hb;go_wp2_with fail;go_ret;exact⟨by rw[hh1.out];rfl,hbf⟩
    ·have hh1:Hid (hh=false):=hid (HK.out.trans (eq_false_of_ne_true hb1))
     have hb3:(q/m%2==1)=false:=eq_false_of_ne_true hb1;clear hpp hb1;go_wp2_with fail;refine (HO.out _).mono ?_;rintro r w1 ⟨⟨s,a,rfl⟩,hb2⟩;have hfd:=fun (W:World)=>Sf W s ((q:Nat):Int) a;have hbf:=Af hb2 hb;go_wp2_with fail;go_roundw
     case rel=>exact ⟨2*m,zD,zV,hid (.inr hh1.out),hbf⟩
     case measure=>(simp[intOf];try omega)
   ·have d2:((m:Int)==(p:Int))=false:=beq_eq_false_iff_ne.2 zD
    have hn:Hid (2*m≤p∨hh=false):=hid (by exact hrel.out.elim (fun h=> .inl (by omega)) .inr);clear hpp;go_wp2_with fail;go_roundw
    case rel=>exact ⟨2*m,zD,zV,hn,hb⟩
    case measure=>(simp[intOf];try omega)
  ·have d1:decide ((m:Int)≤128)=false:=Ae zD
   have hf:Hid (hh=false):=hid (by exact hrel.out.elim (fun h=>by omega) id);clear hpp;go_wp2_with fail;go_ret;exact⟨zBv,hb⟩
theorem Gh(k:Int)(p:Nat)(hp:KE p)(w:World):Calls Tryz.prog 180 #[.int .i64 k,.int .i64 (p:Int)] w fun r w'=>r=.returned (.bool (AE k p))∧Below w.heap.size w w':=by
 have HP:=hid (fun (W:World)=>V5 k p hp W);go_enter Tryz.func180,Tryz.ntmps180;go_wp2_with fail;refine (HP.out _).mono ?_;rintro r w1 ⟨rfl,hb1⟩;go_wp2_with fail;go_ret;exact⟨rfl,hb1⟩
theorem RD(k st:Int)(w:World):Calls Tryz.prog 183 #[.int .i64 k,.int .i64 st] w fun r w'=>r=.returned (.bool (Bw k st))∧w=w':=by
 by_cases h1:k=2
 ·have d1:(k==2)=true:=beq_iff_eq.2 h1
  have hb:Hid (Bw k st=true):=hid (by unfold Bw;rw[Ad h1];rfl);clear h1;go_enter Tryz.func183,Tryz.ntmps183;go_wp2;go_ret;exact⟨zBx,rfl⟩
 ·have d1:(k==2)=false:=beq_eq_false_iff_ne.2 h1
  by_cases h2:k=9
  ·have d2:(k==9)=true:=beq_iff_eq.2 h2
   have hb:Hid (Bw k st=(st==1)):=hid (by unfold Bw;rw[Ae h1,Ad h2,Bool.false_or,BY];by_cases h:st=1<;>simp [h]);generalize Bw k st=bb at*;clear h1 h2;go_enter Tryz.func183,Tryz.ntmps183;go_wp2;go_ret;exact⟨zBx,rfl⟩
  ·have d2:(k==9)=false:=beq_eq_false_iff_ne.2 h2
   have hb:Hid (Bw k st=false):=hid (by unfold Bw;rw[Ae h1,Ae h2];rfl);clear h1 h2;go_enter Tryz.func183,Tryz.ntmps183;go_wp2;go_ret;exact⟨zBx,rfl⟩
theorem Qe(k:Int)(w:World):Calls Tryz.prog 287 #[.int .i64 k] w fun r w'=>r=.returned (.int .i64 (Em k))∧w=w':=by
 by_cases h2:k=9
 ·have d2:(k==9)=true:=beq_iff_eq.2 h2
  have hb:Hid (Em k=4):=hid (by unfold Em;rw[Ai h2]);clear h2;go_enter Tryz.func287,Tryz.ntmps287;go_wp2;go_ret;exact⟨zBx,rfl⟩
 ·have d2:(k==9)=false:=beq_eq_false_iff_ne.2 h2
  have hb:Hid (Em k=20):=hid (by unfold Em;rw[Ak h2]);clear h2;go_enter Tryz.func287,Tryz.ntmps287;go_wp2;go_ret;exact⟨zBx,rfl⟩
theorem EY(k:Int)(p:Nat)(hp:KE p)(r z:Bool)(w:World):Calls Tryz.prog 286 #[.int .i64 k,.int .i64 (p:Int),.bool r,.bool z] w fun e w'=>e=.returned (.bool (Bv (AE k p) r z))∧Below w.heap.size w w':=by
 have HP:=hid (fun (W:World)=>DA k p hp W);generalize AE k p=hh at*;go_enter Tryz.func286,Tryz.ntmps286;go_wp2_with fail;refine (HP.out _).mono ?_;rintro e w1 ⟨rfl,hb1⟩;cases hh
 ·go_wp2_with fail
  go_ret;exact⟨rfl,hb1⟩
 ·go_wp2_with fail
  go_ret;exact⟨rfl,hb1⟩
theorem A9.lift{a1 c1 a2 c2 a3 c3 a4 c4}(h:A9 (·<w.heap.size) w m a1 c1 a2 c2 a3 c3 a4 c4)(hb:Below w.heap.size w w'):A9 (·<w'.heap.size) w' m a1 c1 a2 c2 a3 c3 a4 c4:=
 ⟨h.kind,h.epoch,h.seq,h.pos,h.count,h.state,h.sealE,h.sealN,h.sealT,h.projE,Go.Bs.lift h.streams hb,Go.Bs.lift h.links hb,Go.Bs.lift h.data hb,Go.Bs.lift h.stripes hb⟩
theorem G6(m:Msg)(a1:Option Addr)(c1:Nat)(a2:Option Addr)(c2:Nat)(a3:Option Addr)(c3:Nat)(a4:Option Addr)(c4:Nat)(w:World):
  Calls Tryz.prog 291 #[.agg Acq] w fun r w'=>r=.returned (.bool (Bw m.kind m.state))∧Below w.heap.size w w':=by
 have hd:Bw m.kind m.state=(AE m.kind 32&&((m.kind !=9) || (m.state==1))):=by
  rw[Ws];unfold Bw;by_cases h2:m.kind=2
  ·simp[h2]
  ·by_cases h9:m.kind=9
   ·rw[h9];simp;rfl
   ·simp[h2,h9]
 have HH:=hid (fun W:World=>DA m.kind 32 zU W);obtain⟨kk,ep,sq,po,cn,st,SS,LS,DD,⟨se,sn,tl⟩,⟨pe,PL⟩⟩:=m;dsimp only at*;generalize AE kk 32=H at*;generalize Bw kk st=R at*;have HD:=hid hd;clear hd;cases H
 ·have hff:Hid (R=false):=hid (by rw[HD.out];rfl)
  go_enter Tryz.func291,Tryz.ntmps291;go_wp2_with fail;refine (HH.out _).mono ?_;rintro r w1 ⟨rfl,hb1⟩;go_wp2_with fail;go_ret;exact⟨zM,zA⟩
 ·by_cases h9:kk=9
  ·have e1:(kk !=9)=false:=by simp[h9]
   have hff:Hid (R=(st==1)):=hid (by rw[HD.out,e1];rfl);clear h9;go_enter Tryz.func291,Tryz.ntmps291;go_wp2_with fail;refine (HH.out _).mono ?_;rintro r w1 ⟨rfl,hb1⟩;have y0:=hb1.cell (p:=⟨w.heap.size,0,none⟩) zN;have y5:=hb1.cell (p:=⟨w.heap.size,5,none⟩) zN;simp at y0 y5;go_wp2_with fail;go_ret;exact⟨zM,zA⟩
  ·have e1:(kk !=9)=true:=by simpa using h9
   have hff:Hid (R=true):=hid (by rw[HD.out,e1];rfl);clear h9;go_enter Tryz.func291,Tryz.ntmps291;go_wp2_with fail;refine (HH.out _).mono ?_;rintro r w1 ⟨rfl,hb1⟩;have y0:=hb1.cell (p:=⟨w.heap.size,0,none⟩) zN;simp at y0;go_wp2_with fail;go_ret;exact⟨zM,zA⟩
theorem Q7(l:List Int)(a:Option Addr)(n c:Nat)(w:World)(hl:Bb.r (·<w.heap.size) w [.slice a n c] l):
  Calls Tryz.prog 288 #[.slice a n c] w fun r w'=>r=.returned (.bool (decide (l.length≤16)&&Bj l))∧Below w.heap.size w w':=by
 obtain⟨rfl,hm,_,_⟩:=AT hl;have HZ:=hid (LB l a _ c w hl);generalize Bj l=R at*;clear hl;by_cases h:l.length≤16
 ·have d1:decide ((l.length:Int)≤16)=true:=Ad zD
  rw[Ad h,BY];clear h;go_enter Tryz.func288,Tryz.ntmps288;go_wp2_with fail;refine HZ.out.mono ?_;rintro r w1 ⟨rfl,hb1⟩;go_wp2_with fail;go_ret;exact⟨rfl,hb1⟩
 ·have d1:decide ((l.length:Int)≤16)=false:=Ae zD
  rw[Ae h,IL];clear h;go_enter Tryz.func288,Tryz.ntmps288;go_wp2_with fail;go_ret;exact⟨rfl,Below.refl _ _⟩
theorem Lk{α:Type}(l:List α):((l.length:Int)==0)=decide (l.length=0):=by
 rw[H5];simp
theorem V2(se sn tl:Int):(se==0&&(sn==0&&tl==0))=decide ((⟨se,sn,tl⟩:Jj)=QM):=by
 rw[H5];simp[QM]
theorem Jh(m:Msg)(a1:Option Addr)(c1:Nat)(a2:Option Addr)(c2:Nat)(a3:Option Addr)(c3:Nat)(a4:Option Addr)(c4:Nat)(w:World)(h:A9 (·<w.heap.size) w m a1 c1 a2 c2 a3 c3 a4 c4)(hbk:∀x∈m.links,x.backs.length≤1000000000000):
  Calls Tryz.prog 233 #[.agg Acq] w fun r w'=>r=.returned (.bool (Gl m))∧Below w.heap.size w w':=by
 have hM:Gl m=(decide (1≤m.kind∧m.kind≤14)&&(Bv (AE m.kind 1) (poR m.pos) (m.pos==0)&&(Bv (AE m.kind 2) (decide (1≤m.count)&&decide (m.count≤65536)) (m.count==0)&&
   (Bv (AE m.kind 4) (decide (1≤m.state)&&decide (m.state≤Em m.kind)) (m.state==0)&&(Bv (AE m.kind 8) (decide (m.streams.length≤16)&&Bj m.streams) ((m.streams.length:Int)==0)&&
   (Bv (AE m.kind 16) (CH m.pos m.links) ((m.links.length:Int)==0)&&(Bv (AE m.kind 64) (FP m.sea) (m.sea.epoch==0&&(m.sea.node==0&&m.sea.tail==0))&&
   (Bv (AE m.kind 128) (DG m.proj) (m.proj.epoch==0&&(m.proj.stripes.length:Int)==0)&&(((m.data.length:Int)==0) || (Bw m.kind m.state&&decide (m.data.length≤1048576))))))))))):=by
  unfold Gl;rw[Lk,Lk,Lk,Lk,V2,Bool.decide_and,Bool.decide_and,Bool.decide_and];rfl
 have HPO:=hid (fun W:World=>Me m.pos W);have HMO:=hid (fun W:World=>Qe m.kind W);have HST:=hid (fun (W:World) (hW:Below w.heap.size w W)=>Q7 m.streams a1 _ c1 W (lift h.streams hW));have HLK:=hid (fun (W:World) (hW:Below w.heap.size w W)=>Of m.pos m.links a2 _ c2 W h.pos (lift h.links hW) hbk);have HSE:=hid (fun (W:World)=>NN m.sea h.sealE W);have HPR:=hid (fun (W:World) (hW:Below w.heap.size w W)=>NZ m.proj.epoch m.proj.stripes a4 _ c4 W (lift h.stripes hW));have HHD:=hid (fun (W:World)=>G6 m a1 c1 a2 c2 a3 c3 a4 c4 W);obtain⟨kk,ep,sq,po,cn,st,SS,LS,DD,⟨se,sn,tl⟩,⟨pe,PL⟩⟩:=m;dsimp only at*;have HW1:Hid (∀W:World,Calls Tryz.prog 286 #[.int .i64 kk,.int .i64 1,.bool (poR po),.bool (po==0)] W fun e w'=>e=.returned (.bool (Bv (AE kk 1) (poR po) (po==0)))∧Below W.heap.size W w'):=hid (fun W=>EY kk 1 zU (poR po) (po==0) W);have HW2:Hid (∀W:World,Calls Tryz.prog 286 #[.int .i64 kk,.int .i64 2,.bool (decide (1≤cn)&&decide (cn≤65536)),.bool (cn==0)] W fun e w'=>e=.returned (.bool (Bv (AE kk 2) (decide (1≤cn)&&decide (cn≤65536)) (cn==0)))∧Below W.heap.size W w'):=hid (fun W=>EY kk 2 zU (decide (1≤cn)&&decide (cn≤65536)) (cn==0) W);have HW4:Hid (∀W:World,Calls Tryz.prog 286 #[.int .i64 kk,.int .i64 4,.bool (decide (1≤st)&&decide (st≤Em kk)),.bool (st==0)] W fun e w'=>e=.returned (.bool (Bv (AE kk 4) (decide (1≤st)&&decide (st≤Em kk)) (st==0)))∧Below W.heap.size W w'):=hid (fun W=>EY kk 4 zU (decide (1≤st)&&decide (st≤Em kk)) (st==0) W);have HW8:Hid (∀W:World,Calls Tryz.prog 286 #[.int .i64 kk,.int .i64 8,.bool (decide (SS.length≤16)&&Bj SS),.bool ((SS.length:Int)==0)] W fun e w'=>e=.returned (.bool (Bv (AE kk 8) (decide (SS.length≤16)&&Bj SS) ((SS.length:Int)==0)))∧Below W.heap.size W w'):=hid (fun W=>EY kk 8 zU (decide (SS.length≤16)&&Bj SS) ((SS.length:Int)==0) W);have HW16:Hid (∀W:World,Calls Tryz.prog 286 #[.int .i64 kk,.int .i64 16,.bool (CH po LS),.bool ((LS.length:Int)==0)] W fun e w'=>e=.returned (.bool (Bv (AE kk 16) (CH po LS) ((LS.length:Int)==0)))∧Below W.heap.size W w'):=hid (fun W=>EY kk 16 zU (CH po LS) ((LS.length:Int)==0) W);have HW64:Hid (∀W:World,Calls Tryz.prog 286 #[.int .i64 kk,.int .i64 64,.bool (FP ⟨se,sn,tl⟩),.bool (se==0&&(sn==0&&tl==0))] W fun e w'=>e=.returned (.bool (Bv (AE kk 64) (FP ⟨se,sn,tl⟩) (se==0&&(sn==0&&tl==0))))∧Below W.heap.size W w'):=hid (fun W=>EY kk 64 zU (FP ⟨se,sn,tl⟩) (se==0&&(sn==0&&tl==0)) W);have HW128:Hid (∀W:World,Calls Tryz.prog 286 #[.int .i64 kk,.int .i64 128,.bool (DG ⟨pe,PL⟩),.bool (pe==0&&(PL.length:Int)==0)] W fun e w'=>e=.returned (.bool (Bv (AE kk 128) (DG ⟨pe,PL⟩) (pe==0&&(PL.length:Int)==0)))∧Below W.heap.size W w'):=hid (fun W=>EY kk 128 zU (DG ⟨pe,PL⟩) (pe==0&&(PL.length:Int)==0) W);generalize Bv (AE kk 1) (poR po) (po==0)=B1 at*;generalize Bv (AE kk 2) (decide (1≤cn)&&decide (cn≤65536)) (cn==0)=B2 at*;generalize Bv (AE kk 4) (decide (1≤st)&&decide (st≤Em kk)) (st==0)=B4 at*;generalize Bv (AE kk 8) (decide (SS.length≤16)&&Bj SS) ((SS.length:Int)==0)=B8 at*;generalize Bv (AE kk 16) (CH po LS) ((LS.length:Int)==0)=B16 at*;generalize Bv (AE kk 64) (FP ⟨se,sn,tl⟩) (se==0&&(sn==0&&tl==0))=B64 at*;generalize Bv (AE kk 128) (DG ⟨pe,PL⟩) (pe==0&&(PL.length:Int)==0)=B128 at*;generalize poR po=R1 at*;generalize CH po LS=R16 at*;generalize FP ⟨se,sn,tl⟩=R64 at*;generalize DG ⟨pe,PL⟩=R128 at*;generalize (decide (SS.length≤16)&&Bj SS)=R8 at*;generalize Em kk=MK at*;generalize hK:decide (1≤kk∧kk≤14)=K at*;have HKR:=hid (fun W:World=>Jd kk W);rw[hK] at HKR;have HM:=hid hM;generalize Gl ⟨kk,ep,sq,po,cn,st,SS,LS,DD,⟨se,sn,tl⟩,⟨pe,PL⟩⟩=MM at*;have hb0:Below w.heap.size w (w.alloc (.cells Acx 45)):=zB;have HBX:Hid (Blk (w.alloc (.cells Acx 45)) w.heap.size 45 Acx):=hid (Blk.new w _ _);clear hM hK h hbk;go_enter Tryz.func233,Tryz.ntmps233;go_wp2_with fail;generalize (w.alloc (.cells Acx 45))=w0 at*;have HB0:=hid hb0;clear hb0;refine (HKR.out _).mono ?_;rintro r w0' ⟨rfl,rfl⟩;have HB1:Hid (Below w0.heap.size w0 w0):=hid (Below.refl _ _);cases K
 ·have hff:Hid (MM=false):=hid (by rw[HM.out];rfl)
  go_wp2_with fail;go_ret;exact⟨zM,HB0.out.trans (HB1.out.mono HB0.out.size)⟩
 ·go_upto_region 4 with (fail)
  go_cut [24] from 25 to 33 (fun v V=>v=.bool (!B1)∧Below w0.heap.size w0 V)
  case first=>
   have HX:=hid (HBX.out.later HB1.out);have Y3:=fun s:AX w0=>s.cell (HX.out.cell 3:w0.cell? ⟨w.heap.size,3,none⟩=some (.int .u64 po));refine AR zI zI ?_;repeat (go_big_quiet_step ((first | (go_at_call 256;with_reducible exact Og (HPO.out _)) | (go_at_call 286;with_reducible exact BZ (HW1.out _)))))
   refine Bm ?_;rintro W5 ⟨⟨W5',hb5⟩,rfl⟩;go_wp2_with fail;go_meet
   case rel=>exact ⟨rfl,Af hb5 HB1.out⟩
  case rest=>
   obtain⟨rfl,hbc⟩:=hcut;have HB2:=hid hbc;clear hbc;obtain⟨w1,hwn⟩:∃W:World,W=wc:=⟨_,rfl⟩;subst hwn;cases B1
   ·have hff:Hid (MM=false):=hid zAv
    go_wp2_with fail;go_ret;exact⟨zM,HB0.out.trans (HB2.out.mono HB0.out.size)⟩
   ·go_upto_region 5 with (fail)
    go_cut [34] from 35 to 48 (fun v V=>v=.bool (!B2)∧Below w0.heap.size w0 V)
    case first=>
     have HX:=hid (HBX.out.later HB2.out);have y4:w1.cell? ⟨w.heap.size,4,none⟩=some (.int .i64 cn):=HX.out.cell 4;have HBW:=hid (HB0.out.trans (HB2.out.mono HB0.out.size));cases hc:decide (1≤cn)
     ·have HWc:=HW2.out
      rw[hc,IL] at HWc;have HWd:=hid HWc;clear HWc;go_wp2_with fail;refine (HWd.out _).mono ?_;rintro r w5 ⟨rfl,hb5⟩;go_wp2_with fail;go_meet
      case rel=>exact ⟨rfl,Af hb5 HB2.out⟩
     ·have HWc:=HW2.out
      rw[hc,BY] at HWc;have HWd:=hid HWc;clear HWc;go_wp2_with fail;refine (HWd.out _).mono ?_;rintro r w5 ⟨rfl,hb5⟩;go_wp2_with fail;go_meet
      case rel=>exact ⟨rfl,Af hb5 HB2.out⟩
    case rest=>
     obtain⟨rfl,hbc⟩:=hcut;have HB3:=hid hbc;clear hbc;obtain⟨w2,hwn⟩:∃W:World,W=wc:=⟨_,rfl⟩;subst hwn;cases B2
     ·have hff:Hid (MM=false):=hid zAv
      go_wp2_with fail;go_ret;exact⟨zM,HB0.out.trans (HB3.out.mono HB0.out.size)⟩
     ·go_upto_region 6 with (fail)
      go_cut [49] from 50 to 65 (fun v V=>v=.bool (!B4)∧Below w0.heap.size w0 V)
      case first=>
       have HX:=hid (HBX.out.later HB3.out);have Y5:=fun s:AX w2=>s.cell (HX.out.cell 5:w2.cell? ⟨w.heap.size,5,none⟩=some (.int .i64 st));cases hc:decide (1≤st)
       ·have HWc:=HW4.out
        rw[hc,IL] at HWc;have HWd:=hid HWc;clear HWc;refine AR zI zI ?_;repeat (go_big_quiet_step ((first | (go_at_call 286;with_reducible exact BZ (HWd.out _)))))
        refine Bm ?_;rintro W5 ⟨⟨W5',hb5⟩,rfl⟩;go_wp2_with fail;go_meet
        case rel=>exact ⟨rfl,Af hb5 HB3.out⟩
       ·have HWc:=HW4.out
        rw[hc,BY] at HWc;have HWd:=hid HWc;clear HWc;refine AR zI zI ?_;repeat (go_big_quiet_step ((first | (go_at_call 287;with_reducible exact Og (HMO.out _)) | (go_at_call 286;with_reducible exact BZ (HWd.out _)))))
        refine Bm ?_;rintro W5 ⟨⟨W5',hb5⟩,rfl⟩;go_wp2_with fail;go_meet
        case rel=>exact ⟨rfl,Af hb5 HB3.out⟩
      case rest=>
       obtain⟨rfl,hbc⟩:=hcut;have HB4:=hid hbc;clear hbc;obtain⟨w3,hwn⟩:∃W:World,W=wc:=⟨_,rfl⟩;subst hwn;cases B4
       ·have hff:Hid (MM=false):=hid zAv
        go_wp2_with fail;go_ret;exact⟨zM,HB0.out.trans (HB4.out.mono HB0.out.size)⟩
       ·go_upto_region 7 with (fail)
        go_cut [66] from 67 to 76 (fun v V=>v=.bool (!B8)∧Below w0.heap.size w0 V)
        case first=>
         have HX:=hid (HBX.out.later HB4.out);have Y6:=fun s:AX w3=>s.cell (HX.out.cell 6:w3.cell? ⟨w.heap.size,6,none⟩=some (.slice a1 SS.length c1));have HS:=hid (fun s:AX w3=>HST.out s.at_ (Af s.below (HB0.out.trans (HB4.out.mono HB0.out.size))));refine AR zI zI ?_;repeat (go_big_quiet_step ((first | (go_at_call 288;with_reducible exact BZ (HS.out _)) | (go_at_call 286;with_reducible exact BZ (HW8.out _)))))
         refine Bm ?_;rintro W5 ⟨⟨W5',hb5⟩,rfl⟩;go_wp2_with fail;go_meet
         case rel=>exact ⟨rfl,Af hb5 HB4.out⟩
        case rest=>
         obtain⟨rfl,hbc⟩:=hcut;have HB5:=hid hbc;clear hbc;obtain⟨w4,hwn⟩:∃W:World,W=wc:=⟨_,rfl⟩;subst hwn;cases B8
         ·have hff:Hid (MM=false):=hid zAv
          go_wp2_with fail;go_ret;exact⟨zM,HB0.out.trans (HB5.out.mono HB0.out.size)⟩
         ·go_upto_region 8 with (fail)
          go_cut [77] from 78 to 89 (fun v V=>v=.bool (!B16)∧Below w0.heap.size w0 V)
          case first=>
           have HX:=hid (HBX.out.later HB5.out);have Y3:=fun s:AX w4=>s.cell (HX.out.cell 3:w4.cell? ⟨w.heap.size,3,none⟩=some (.int .u64 po));have Y7:=fun s:AX w4=>s.cell (HX.out.cell 7:w4.cell? ⟨w.heap.size,7,none⟩=some (.slice a2 LS.length c2));have HS:=hid (fun s:AX w4=>HLK.out s.at_ (Af s.below (HB0.out.trans (HB5.out.mono HB0.out.size))));refine AR zI zI ?_;repeat (go_big_quiet_step ((first | (go_at_call 277;with_reducible exact BZ (HS.out _)) | (go_at_call 286;with_reducible exact BZ (HW16.out _)))))
           refine Bm ?_;rintro W5 ⟨⟨W5',hb5⟩,rfl⟩;go_wp2_with fail;go_meet
           case rel=>exact ⟨rfl,Af hb5 HB5.out⟩
          case rest=>
           obtain⟨rfl,hbc⟩:=hcut;have HB6:=hid hbc;clear hbc;obtain⟨w5,hwn⟩:∃W:World,W=wc:=⟨_,rfl⟩;subst hwn;cases B16
           ·have hff:Hid (MM=false):=hid zAv
            go_wp2_with fail;go_ret;exact⟨zM,HB0.out.trans (HB6.out.mono HB0.out.size)⟩
           ·go_upto_region 9 with (fail)
            go_cut [90] from 91 to 100 (fun v V=>v=.bool (!B64)∧Below w0.heap.size w0 V)
            case first=>
             have HX:=hid (HBX.out.later HB6.out);have Y9:=fun s:AX w5=>s.cell (HX.out.cell 9:w5.cell? ⟨w.heap.size,9,none⟩=some (.int .u64 se));have Y10:=fun s:AX w5=>s.cell (HX.out.cell 10:w5.cell? ⟨w.heap.size,10,none⟩=some (.int .u64 sn));have Y11:=fun s:AX w5=>s.cell (HX.out.cell 11:w5.cell? ⟨w.heap.size,11,none⟩=some (.int .u64 tl));cases hc:(se==0)
             ·have HWc:=HW64.out
              rw[hc,IL] at HWc;have HWd:=hid HWc;clear HWc;refine AR zI zI ?_;repeat (go_big_quiet_step ((first | (go_at_call 289;with_reducible exact BZ (HSE.out _)) | (go_at_call 286;with_reducible exact BZ (HWd.out _)))))
              refine Bm ?_;rintro W5 ⟨⟨W5',hb5⟩,rfl⟩;go_wp2_with fail;go_meet
              case rel=>exact ⟨rfl,Af hb5 HB6.out⟩
             ·cases hd:(sn==0)
              ·have HWc:=HW64.out
               rw[hc,hd,BY,IL] at HWc;have HWd:=hid HWc;clear HWc;refine AR zI zI ?_;repeat (go_big_quiet_step ((first | (go_at_call 289;with_reducible exact BZ (HSE.out _)) | (go_at_call 286;with_reducible exact BZ (HWd.out _)))))
               refine Bm ?_;rintro W5 ⟨⟨W5',hb5⟩,rfl⟩;go_wp2_with fail;go_meet
               case rel=>exact ⟨rfl,Af hb5 HB6.out⟩
              ·cases he:(tl==0)
               ·have HWc:=HW64.out
                rw[hc,hd,he,BY,BY] at HWc;have HWd:=hid HWc;clear HWc;refine AR zI zI ?_;repeat (go_big_quiet_step ((first | (go_at_call 289;with_reducible exact BZ (HSE.out _)) | (go_at_call 286;with_reducible exact BZ (HWd.out _)))))
                refine Bm ?_;rintro W5 ⟨⟨W5',hb5⟩,rfl⟩;go_wp2_with fail;go_meet
                case rel=>exact ⟨rfl,Af hb5 HB6.out⟩
               ·have HWc:=HW64.out
                rw[hc,hd,he,BY,BY] at HWc;have HWd:=hid HWc;clear HWc;refine AR zI zI ?_;repeat (go_big_quiet_step ((first | (go_at_call 289;with_reducible exact BZ (HSE.out _)) | (go_at_call 286;with_reducible exact BZ (HWd.out _)))))
                refine Bm ?_;rintro W5 ⟨⟨W5',hb5⟩,rfl⟩;go_wp2_with fail;go_meet
                case rel=>exact ⟨rfl,Af hb5 HB6.out⟩
            case rest=>
             obtain⟨rfl,hbc⟩:=hcut;have HB7:=hid hbc;clear hbc;obtain⟨w6,hwn⟩:∃W:World,W=wc:=⟨_,rfl⟩;subst hwn;cases B64
             ·have hff:Hid (MM=false):=hid zAv
              go_wp2_with fail;go_ret;exact⟨zM,HB0.out.trans (HB7.out.mono HB0.out.size)⟩
             ·go_upto_region 10 with (fail)
              go_cut [101] from 102 to 118 (fun v V=>v=.bool (!B128)∧Below w0.heap.size w0 V)
              case first=>
               have HX:=hid (HBX.out.later HB7.out);have Y12:=fun s:AX w6=>s.cell (HX.out.cell 12:w6.cell? ⟨w.heap.size,12,none⟩=some (.int .u64 pe));have Y13:=fun s:AX w6=>s.cell (HX.out.cell 13:w6.cell? ⟨w.heap.size,13,none⟩=some (.slice a4 PL.length c4));have HS:=hid (fun s:AX w6=>HPR.out s.at_ (Af s.below (HB0.out.trans (HB7.out.mono HB0.out.size))));cases hc:(pe==0)
               ·have HWc:=HW128.out
                rw[hc,IL] at HWc;have HWd:=hid HWc;clear HWc;refine AR zI zI ?_;repeat (go_big_quiet_step ((first | (go_at_call 290;with_reducible exact BZ (HS.out _)) | (go_at_call 286;with_reducible exact BZ (HWd.out _)))))
                refine Bm ?_;rintro W5 ⟨⟨W5',hb5⟩,rfl⟩;go_wp2_with fail;go_meet
                case rel=>exact ⟨rfl,Af hb5 HB7.out⟩
               ·have HWc:=HW128.out
                rw[hc,BY] at HWc;have HWd:=hid HWc;clear HWc;refine AR zI zI ?_;repeat (go_big_quiet_step ((first | (go_at_call 290;with_reducible exact BZ (HS.out _)) | (go_at_call 286;with_reducible exact BZ (HWd.out _)))))
                refine Bm ?_;rintro W5 ⟨⟨W5',hb5⟩,rfl⟩;go_wp2_with fail;go_meet
                case rel=>exact ⟨rfl,Af hb5 HB7.out⟩
              case rest=>
               obtain⟨rfl,hbc⟩:=hcut;have HB8:=hid hbc;clear hbc;obtain⟨w7,hwn⟩:∃W:World,W=wc:=⟨_,rfl⟩;subst hwn;cases B128
               ·have hff:Hid (MM=false):=hid zAv
                go_wp2_with fail;go_ret;exact⟨zM,HB0.out.trans (HB8.out.mono HB0.out.size)⟩
               ·go_upto_region 2 with (fail)
                have HX:=hid (HBX.out.later HB8.out);have y0:w7.cell? ⟨w.heap.size,0,none⟩=some (.int .i64 kk):=HX.out.cell 0;have y1:w7.cell? ⟨w.heap.size,1,none⟩=some (.int .u64 ep):=HX.out.cell 1;have y2:w7.cell? ⟨w.heap.size,2,none⟩=some (.int .u64 sq):=HX.out.cell 2;have y3:w7.cell? ⟨w.heap.size,3,none⟩=some (.int .u64 po):=HX.out.cell 3;have y4:w7.cell? ⟨w.heap.size,4,none⟩=some (.int .i64 cn):=HX.out.cell 4;have y5:w7.cell? ⟨w.heap.size,5,none⟩=some (.int .i64 st):=HX.out.cell 5;have y6:w7.cell? ⟨w.heap.size,6,none⟩=some (.slice a1 SS.length c1):=HX.out.cell 6;have y7:w7.cell? ⟨w.heap.size,7,none⟩=some (.slice a2 LS.length c2):=HX.out.cell 7;have y8:w7.cell? ⟨w.heap.size,8,none⟩=some (.slice a3 DD.length c3):=HX.out.cell 8;have y9:w7.cell? ⟨w.heap.size,9,none⟩=some (.int .u64 se):=HX.out.cell 9;have y10:w7.cell? ⟨w.heap.size,10,none⟩=some (.int .u64 sn):=HX.out.cell 10;have y11:w7.cell? ⟨w.heap.size,11,none⟩=some (.int .u64 tl):=HX.out.cell 11;have y12:w7.cell? ⟨w.heap.size,12,none⟩=some (.int .u64 pe):=HX.out.cell 12;have y13:w7.cell? ⟨w.heap.size,13,none⟩=some (.slice a4 PL.length c4):=HX.out.cell 13;have HBW:=hid (HB0.out.trans (HB8.out.mono HB0.out.size));have hfm:MM=(((DD.length:Int)==0) || (Bw kk st&&decide (DD.length≤1048576))):=by rw[HM.out];simp only[BY]
                clear HX;generalize Bw kk st=BL at*;cases hc:((DD.length:Int)==0)
                ·cases BL
                 ·have hff:Hid (MM=false):=hid (by rw[hfm,hc];rfl)
                  clear hfm;go_wp2_with fail;refine (HHD.out _).mono ?_;rintro r w5 ⟨rfl,hb5⟩;have hbe:=Af hb5 HBW.out;go_wp2_with fail;go_ret;exact⟨zM,hbe⟩
                 ·have hff:Hid (MM=decide (DD.length≤1048576)):=hid (by rw[hfm,hc];rfl)
                  have hdd:decide ((DD.length:Int)≤1048576)=decide (DD.length≤1048576):=by
                   rw[H5];simp;omega
                  generalize decide (DD.length≤1048576)=DM at*;clear hfm;go_wp2_with fail;refine (HHD.out _).mono ?_;rintro r w5 ⟨rfl,hb5⟩;have hbe:=Af hb5 HBW.out;have z8:=(hb5.cell (p:=⟨w.heap.size,8,none⟩) (CN _ _ y8)).trans y8;go_wp2_with fail;go_ret;exact⟨by rw[hff.out];first | rfl | (rw[←hdd];rfl),hbe⟩
                ·have hff:Hid (MM=true):=hid (by rw[hfm,hc];rfl)
                 clear hfm;go_wp2_with fail;go_ret;exact⟨zM,HBW.out⟩
theorem TC(x y:BV)(a a':Option Addr)(n c n' c':Nat)(w:World)(hx:EH.r (·<w.heap.size) w [.slice a n c] x.sets)(hy:EH.r (·<w.heap.size) w [.slice a' n' c'] y.sets):
  Calls Tryz.prog 170 #[.agg #[.int .u64 x.lo,.int .u64 x.hi,.slice a n c],.agg #[.int .u64 y.lo,.int .u64 y.hi,.slice a' n' c']] w fun r w'=>r=.returned (.bool (decide (x=y)))∧Below w.heap.size w w':=by
 obtain⟨rfl,hm,_,_⟩:=AT hx;obtain⟨rfl,hm',_,_⟩:=AT hy;obtain⟨p0,p1,D⟩:=x;obtain⟨q0,q1,D'⟩:=y;dsimp only at*;by_cases h0:p0=q0
 ·have e0:(p0 !=q0)=false:=by simp[h0]
  by_cases h1:p1=q1
  ·have e1:(p1 !=q1)=false:=by simp[h1]
   by_cases hlen:D.length=D'.length
   ·have HX:=hid hx;clear hx
    have HY:=hid hy;clear hy;have HL:=hid hlen;have el:((D.length:Int) !=(D'.length:Int))=false:=by simp[hlen]
    have hst0:Hid (decide ((⟨p0,p1,D⟩:BV)=⟨q0,q1,D'⟩)=decide (D.drop 0=D'.drop 0)):=hid (by simp[h0,h1]);clear hlen h0 h1;go_enter Tryz.func170,Tryz.ntmps170;go_wp2_with fail;refine Gs (fun W=>Below w.heap.size w W∧w.heap.size+1<W.heap.size∧W.cell? ⟨w.heap.size,2,none⟩=some (.slice a D.length c)∧W.cell? ⟨w.heap.size+1,2,none⟩=some (.slice a' D'.length c')) ⟨zB,zN,by go_simp,by go_simp⟩ ?_;intro w1 ⟨hb2,hzb,s0,s1⟩;go_loopw [5] (fun i wr=>∃k:Nat,k≤D.length∧i=.int .i64 k∧Hid (decide ((⟨p0,p1,D⟩:BV)=⟨q0,q1,D'⟩)=decide (D.drop k=D'.drop k))∧Below w1.heap.size w1 wr) (fun i _=>D.length-(intOf i).toNat)
    case atStart=>exact ⟨0,Am _,rfl,hst0,Below.refl _ _⟩
    case round=>
     obtain⟨k,hk,rfl,hf,hb7⟩:=hrel;have hb:=Af hb7 hb2;have t0:wr.cell? ⟨w.heap.size,2,none⟩=some (.slice a D.length c):=(AX.mk wr hb7).cell s0;have t1:wr.cell? ⟨w.heap.size+1,2,none⟩=some (.slice a' D'.length c'):=(AX.mk wr hb7).cell s1;have hz3:w.heap.size+1<wr.heap.size:=by have:=hb7.size;omega
     by_cases hlt:k<D.length
     ·have hlt':k<D'.length:=by rw[←HL.out];exact hlt
      obtain⟨b,o,hA,hbb,ax,cx,x0,xl⟩:=GQ HX.out hlt;obtain⟨b',o',hA',hbb',ay,cy,y0,yl⟩:=GQ HY.out hlt';have hst:=hid (G5 D D' k hlt hlt');subst hA hA';have T0:=fun s:AX wr=>s.cell t0;have T1:=fun s:AX wr=>s.cell t1;have X0:=fun s:AX wr=>s.cell ((hb.cell (p:=⟨b,o+k,none⟩) hbb).trans x0);have Y0:=fun s:AX wr=>s.cell ((hb.cell (p:=⟨b',o'+k,none⟩) hbb').trans y0);clear x0 y0;generalize hlk:D[k]=u at*;generalize hlm:D'[k]=v at*;clear hlk hlm;have hs1:=hid (lift xl hb);have hs2:=hid (lift yl hb);clear xl yl;have hO:=fun s:AX wr=>LI u v ax ay _ cx _ cy s.at_ (lift hs1.out s.below) (lift hs2.out s.below);have i0:(0:Int)≤(k:Int):=zD;have i1:(k:Int)<(D.length:Int):=zD;have i2:(k:Int)<(D'.length:Int):=zD;have d1:decide ((k:Int)<(D.length:Int))=true:=Ad i1;by_cases huv:u=v
      ·rw[Ad huv] at hO
       have HO:=hid hO;clear hO;have hst':Hid (decide (D.drop k=D'.drop k)=decide (D.drop (k+1)=D'.drop (k+1))):=hid zBn;clear huv;go_wp2_with fail;refine AR zI zI ?_;repeat (go_big_quiet_step (((go_at_call 105;exact BZ (HO.out _)))))
       refine Bm ?_;rintro W5 ⟨⟨W5',hb5⟩,rfl⟩;go_wp2_with fail;go_roundw
       case rel=>exact ⟨k+1,zD,zV,hid zAu,Af hb5 hb7⟩
       case measure=>(simp[intOf];try omega)
      ·rw[Ae huv] at hO
       have HO:=hid hO;clear hO;have hff:Hid (decide ((⟨p0,p1,D⟩:BV)=⟨q0,q1,D'⟩)=false):=hid zA2;clear huv;go_wp2_with fail;refine AR zI zI ?_;repeat (go_big_quiet_step (((go_at_call 105;exact BZ (HO.out _)))))
       refine Bm ?_;rintro W5 ⟨⟨W5',hb5⟩,rfl⟩;go_wp2_with fail;go_ret;exact⟨zM,Af hb5 hb⟩
     ·obtain rfl:k=D.length:=by omega
      have d1:decide ((D.length:Int)<(D.length:Int))=false:=Ae zD;have hff:Hid (decide ((⟨p0,p1,D⟩:BV)=⟨q0,q1,D'⟩)=true):=hid ZF;go_wp2_with fail;go_ret;exact⟨zM,hb⟩
   ·have hff:Hid (decide ((⟨p0,p1,D⟩:BV)=⟨q0,q1,D'⟩)=false):=hid (by simp[h0,h1];rintro rfl;exact hlen rfl)
    have el:((D.length:Int) !=(D'.length:Int))=true:=zH;clear hlen hx hy;go_enter Tryz.func170,Tryz.ntmps170;go_wp2_with fail;go_ret;exact⟨zM,zB⟩
  ·have e1:(p1 !=q1)=true:=by simpa using h1
   have hfin:Hid (decide ((⟨p0,p1,D⟩:BV)=⟨q0,q1,D'⟩)=false):=hid (by simp[h0,h1]);clear hx hy;go_enter Tryz.func170,Tryz.ntmps170;go_wp2_with fail;go_ret;exact⟨ZC,zA⟩
 ·have e0:(p0 !=q0)=true:=by simpa using h0
  have hfin:Hid (decide ((⟨p0,p1,D⟩:BV)=⟨q0,q1,D'⟩)=false):=hid (by simp[h0]);clear hx hy;go_enter Tryz.func170,Tryz.ntmps170;go_wp2_with fail;go_ret;exact⟨ZC,zA⟩
theorem TA(x y:EZ)(a a':Option Addr)(n c n' c':Nat)(w:World)(hx:Bq.r (·<w.heap.size) w [.slice a n c] x.stripes)(hy:Bq.r (·<w.heap.size) w [.slice a' n' c'] y.stripes):
  Calls Tryz.prog 107 #[.agg #[.int .u64 x.epoch,.slice a n c],.agg #[.int .u64 y.epoch,.slice a' n' c']] w fun r w'=>r=.returned (.bool (decide (x=y)))∧Below w.heap.size w w':=by
 obtain⟨rfl,hm,_,_⟩:=AT hx;obtain⟨rfl,hm',_,_⟩:=AT hy;obtain⟨p0,D⟩:=x;obtain⟨q0,D'⟩:=y;dsimp only at*;by_cases h0:p0=q0
 ·have e0:(p0 !=q0)=false:=by simp[h0]
  by_cases hlen:D.length=D'.length
  ·have HX:=hid hx;clear hx
   have HY:=hid hy;clear hy;have HL:=hid hlen;have el:((D.length:Int) !=(D'.length:Int))=false:=by simp[hlen]
   have hst0:Hid (decide ((⟨p0,D⟩:EZ)=⟨q0,D'⟩)=decide (D.drop 0=D'.drop 0)):=hid (by simp[h0]);clear hlen h0;go_enter Tryz.func107,Tryz.ntmps107;go_wp2_with fail;refine Gs (fun W=>Below w.heap.size w W∧w.heap.size+1<W.heap.size∧W.cell? ⟨w.heap.size,1,none⟩=some (.slice a D.length c)∧W.cell? ⟨w.heap.size+1,1,none⟩=some (.slice a' D'.length c')) ⟨zB,zN,by go_simp,by go_simp⟩ ?_;intro w1 ⟨hb2,hzb,s0,s1⟩;go_loopw [5] (fun i wr=>∃k:Nat,k≤D.length∧i=.int .i64 k∧Hid (decide ((⟨p0,D⟩:EZ)=⟨q0,D'⟩)=decide (D.drop k=D'.drop k))∧Below w1.heap.size w1 wr) (fun i _=>D.length-(intOf i).toNat)
   case atStart=>exact ⟨0,Am _,rfl,hst0,Below.refl _ _⟩
   case round=>
    obtain⟨k,hk,rfl,hf,hb7⟩:=hrel;have hb:=Af hb7 hb2;have t0:wr.cell? ⟨w.heap.size,1,none⟩=some (.slice a D.length c):=(AX.mk wr hb7).cell s0;have t1:wr.cell? ⟨w.heap.size+1,1,none⟩=some (.slice a' D'.length c'):=(AX.mk wr hb7).cell s1;have hz3:w.heap.size+1<wr.heap.size:=by have:=hb7.size;omega
    by_cases hlt:k<D.length
    ·have hlt':k<D'.length:=by rw[←HL.out];exact hlt
     obtain⟨b,o,hA,hbb,ax,cx,x0,x1,x2,xb0,xb1,xl⟩:=Ge HX.out hlt;obtain⟨b',o',hA',hbb',ay,cy,y0,y1,y2,yb0,yb1,yl⟩:=Ge HY.out hlt';have hst:=hid (G5 D D' k hlt hlt');subst hA hA';have T0:=fun s:AX wr=>s.cell t0;have T1:=fun s:AX wr=>s.cell t1;have X0:=fun s:AX wr=>s.cell ((hb.cell (p:=⟨b,o+k*3,none⟩) hbb).trans x0);have X1:=fun s:AX wr=>s.cell ((hb.cell (p:=⟨b,o+k*3+1,none⟩) hbb).trans x1);have X2:=fun s:AX wr=>s.cell ((hb.cell (p:=⟨b,o+k*3+2,none⟩) hbb).trans x2);have Y0:=fun s:AX wr=>s.cell ((hb.cell (p:=⟨b',o'+k*3,none⟩) hbb').trans y0);have Y1:=fun s:AX wr=>s.cell ((hb.cell (p:=⟨b',o'+k*3+1,none⟩) hbb').trans y1);have Y2:=fun s:AX wr=>s.cell ((hb.cell (p:=⟨b',o'+k*3+2,none⟩) hbb').trans y2);clear x0 x1 x2 y0 y1 y2 xb0 xb1 yb0 yb1;generalize hlk:D[k]=u at*;generalize hlm:D'[k]=v at*;clear hlk hlm;have hs1:=hid (lift xl hb);have hs2:=hid (lift yl hb);clear xl yl;have hO:=fun s:AX wr=>TC u v ax ay _ cx _ cy s.at_ (lift hs1.out s.below) (lift hs2.out s.below);have i0:(0:Int)≤(k:Int):=zD;have i1:(k:Int)<(D.length:Int):=zD;have i2:(k:Int)<(D'.length:Int):=zD;have d1:decide ((k:Int)<(D.length:Int))=true:=Ad i1;by_cases huv:u=v
     ·rw[Ad huv] at hO
      have HO:=hid hO;clear hO;have hst':Hid (decide (D.drop k=D'.drop k)=decide (D.drop (k+1)=D'.drop (k+1))):=hid zBn;clear huv;go_wp2_with fail;refine AR zI zI ?_;repeat (go_big_quiet_step (((go_at_call 170;exact BZ (HO.out _)))))
      refine Bm ?_;rintro W5 ⟨⟨W5',hb5⟩,rfl⟩;go_wp2_with fail;go_roundw
      case rel=>exact ⟨k+1,zD,zV,hid zAu,Af hb5 hb7⟩
      case measure=>(simp[intOf];try omega)
     ·rw[Ae huv] at hO
      have HO:=hid hO;clear hO;have hff:Hid (decide ((⟨p0,D⟩:EZ)=⟨q0,D'⟩)=false):=hid zA2;clear huv;go_wp2_with fail;refine AR zI zI ?_;repeat (go_big_quiet_step (((go_at_call 170;exact BZ (HO.out _)))))
      refine Bm ?_;rintro W5 ⟨⟨W5',hb5⟩,rfl⟩;go_wp2_with fail;go_ret;exact⟨zM,Af hb5 hb⟩
    ·obtain rfl:k=D.length:=by omega
     have d1:decide ((D.length:Int)<(D.length:Int))=false:=Ae zD;have hff:Hid (decide ((⟨p0,D⟩:EZ)=⟨q0,D'⟩)=true):=hid ZF;go_wp2_with fail;go_ret;exact⟨zM,hb⟩
  ·have hff:Hid (decide ((⟨p0,D⟩:EZ)=⟨q0,D'⟩)=false):=hid (by simp[h0];rintro rfl;exact hlen rfl)
   have el:((D.length:Int) !=(D'.length:Int))=true:=zH;clear hlen hx hy;go_enter Tryz.func107,Tryz.ntmps107;go_wp2_with fail;go_ret;exact⟨zM,zB⟩
 ·have e0:(p0 !=q0)=true:=by simpa using h0
  have hfin:Hid (decide ((⟨p0,D⟩:EZ)=⟨q0,D'⟩)=false):=hid (by simp[h0]);clear hx hy;go_enter Tryz.func107,Tryz.ntmps107;go_wp2_with fail;go_ret;exact⟨ZC,zA⟩
end Go.Proofs.YtfddhafbhceoaaaGreat
