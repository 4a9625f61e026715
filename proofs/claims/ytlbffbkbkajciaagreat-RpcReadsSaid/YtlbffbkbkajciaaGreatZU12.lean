/- Mini: Needed by rpcReads_walk, part 12: texts put together by shake.py; no condition. -/
import Derived.Test.YtlbffbkbkajciaaGreatZU5
import Derived.Test.YtlbffbkbkajciaaGreatZU3
import Derived.Deep.CutRange
import Derived.Test.YtlbffbkbkajciaaGreatZU11
import Derived.Test.YtlbffbkbkajciaaGreatZU8
import Derived.Deep.RegionHeld3
import Derived.Test.YtlbffbkbkajciaaGreatZU7
import Derived.Test.YtlbffbkbkajciaaGreatZU6
import Derived.Test.YtlbffbkbkajciaaGreatZU2
import Derived.Test.YtlbffbkbkajciaaGreatZU1
import Derived.Test.YtlbffbkbkajciaaGreatZU9
set_option linter.unusedVariables false
set_option linter.unusedSimpArgs false
set_option maxRecDepth 100000
set_option maxHeartbeats 6400000
namespace Go.Bs
theorem zCa{p:Prop}(h:p:=by have := HUU.out.lt g HUU.out.own; have := HI2.out.lm; dsimp only; omega):p:=h
theorem zBn{p:Prop}(h:p:=by have := hb.1; dsimp only; omega):p:=h
theorem zBc{p:Prop}(h:p:=by rw [HM.out]; simp):p:=h
theorem Z2{p:Prop}(h:p:=by have := HUU.out.lt g HUU.out.own; dsimp only; omega):p:=h
theorem ZB{p:Prop}(h:p:=by simp only [Cf, Aa, Ab, Ac]):p:=h
theorem zW{p:Prop}(h:p:=by unfold IL; decide):p:=h
theorem zJ{p:Prop}(h:p:=by first | (simp only [Cf, Aa, Ab, Ac]; done) | (simp only [Cf, Aa, Ab, Ac]; rfl)):p:=h
abbrev VA(h:Array Value:=by exact #[.int .i64 m.kind,.int .u64 m.epoch,.int .u64 m.seq,.int .u64 m.pos,.int .i64 m.count,.int .i64 m.state,.slice a1 m.streams.length c1,.slice a2 m.links.length c2,.slice a3 m.data.length c3,.int .u64 m.sea.epoch,.int .u64 m.sea.node,.int .u64 m.sea.tail,.int .u64 m.proj.epoch,.slice a4 m.proj.stripes.length c4]):=h
abbrev VB(h:Array Value:=by exact #[.int .i64 kk,.int .u64 ep,.int .u64 sq,.int .u64 po,.int .i64 cn,.int .i64 st,.slice a1 SS.length c1,.slice a2 LS.length c2,.slice a3 DD.length c3,.int .u64 se,.int .u64 sn,.int .u64 tl,.int .u64 pe,.slice a4 PL.length c4]):=h
theorem Az:type_of% @List.getElem_cons_zero:=@List.getElem_cons_zero
theorem AA:type_of% @List.getElem_cons_succ:=@List.getElem_cons_succ
theorem AE:type_of% @List.getElem_toArray:=@List.getElem_toArray
theorem AW:type_of% @wp_region_held_drew:=@wp_region_held_drew
end Go.Bs
namespace Go.Proofs.YtlbffbkbkajciaaGreat
open Go.RowKit Go.Bs Go.Maps
variable{caps:Array Value}{h q:Bool}{k:Int}{B J J':List UInt8}{m:Msg}{A L M base c c1 c2 c3 c4 fn g lo most:Nat}{K S:Nat → Prop}{a a1 a2 a3 a4:Option Addr}{s s':Rs}{t:TypeId}{v0 v1 v2 v3 v4:Value}{W W' w w':World}{X:World → Bool → Prop}
theorem AH.lift{a1 c1 a2 c2 a3 c3 a4 c4}(h:AH (·<w.heap.size) w m a1 c1 a2 c2 a3 c3 a4 c4)(hb:Below w.heap.size w w'):AH (·<w'.heap.size) w' m a1 c1 a2 c2 a3 c3 a4 c4:=
 ⟨h.kind,h.epoch,h.seq,h.pos,h.count,h.state,h.sealE,h.sealN,h.sealT,h.projE,Go.Bs.lift h.streams hb,Go.Bs.lift h.links hb,Go.Bs.lift h.data hb,Go.Bs.lift h.stripes hb⟩
theorem GZ(m:Msg)(a1:Option Addr)(c1:Nat)(a2:Option Addr)(c2:Nat)(a3:Option Addr)(c3:Nat)(a4:Option Addr)(c4:Nat)(w:World):
  Calls Tryz.prog 73 #[.agg VA] w fun r w'=>r=.returned (.bool (Ch m.kind m.state))∧Below w.heap.size w w':=by
 have hd:Ch m.kind m.state=(AM m.kind 32&&((m.kind !=9) || (m.state==1))):=by
  rw[Sc];unfold Ch;by_cases h2:m.kind=2
  ·simp[h2]
  ·by_cases h9:m.kind=9
   ·rw[h9];simp;rfl
   ·simp[h2,h9]
 have HH:=hid (fun W:World=>CZ m.kind 32 zW W);obtain⟨kk,ep,sq,po,cn,st,SS,LS,DD,⟨se,sn,tl⟩,⟨pe,PL⟩⟩:=m;dsimp only at*;generalize AM kk 32=H at*;generalize Ch kk st=R at*;have HD:=hid hd;clear hd;cases H
 ·have hff:Hid (R=false):=hid (by rw[HD.out];rfl)
  go_enter Tryz.func73,Tryz.ntmps73;go_wp2_with fail;refine (HH.out _).mono ?_;rintro r w1 ⟨rfl,hb1⟩;go_wp2_with fail;go_ret;exact⟨zQ,zA⟩
 ·by_cases h9:kk=9
  ·have e1:(kk !=9)=false:=by simp[h9]
   have hff:Hid (R=(st==1)):=hid (by rw[HD.out,e1];rfl);clear h9;go_enter Tryz.func73,Tryz.ntmps73;go_wp2_with fail;refine (HH.out _).mono ?_;rintro r w1 ⟨rfl,hb1⟩;have y0:=hb1.cell (p:=⟨w.heap.size,0,none⟩) zP;have y5:=hb1.cell (p:=⟨w.heap.size,5,none⟩) zP;simp at y0 y5;go_wp2_with fail;go_ret;exact⟨zQ,zA⟩
  ·have e1:(kk !=9)=true:=by simpa using h9
   have hff:Hid (R=true):=hid (by rw[HD.out,e1];rfl);clear h9;go_enter Tryz.func73,Tryz.ntmps73;go_wp2_with fail;refine (HH.out _).mono ?_;rintro r w1 ⟨rfl,hb1⟩;have y0:=hb1.cell (p:=⟨w.heap.size,0,none⟩) zP;simp at y0;go_wp2_with fail;go_ret;exact⟨zQ,zA⟩
theorem NA(l:List Int)(a:Option Addr)(n c:Nat)(w:World)(hl:AV.r (·<w.heap.size) w [.slice a n c] l):
  Calls Tryz.prog 84 #[.slice a n c] w fun r w'=>r=.returned (.bool (decide (l.length≤16)&&Ck l))∧Below w.heap.size w w':=by
 obtain⟨rfl,hm,_,_⟩:=AU hl;have HZ:=hid (Ma l a _ c w hl);generalize Ck l=R at*;clear hl;by_cases h:l.length≤16
 ·have d1:decide ((l.length:Int)≤16)=true:=Ae zD
  rw[Ae h,Cw];clear h;go_enter Tryz.func84,Tryz.ntmps84;go_wp2_with fail;refine HZ.out.mono ?_;rintro r w1 ⟨rfl,hb1⟩;go_wp2_with fail;go_ret;exact⟨rfl,hb1⟩
 ·have d1:decide ((l.length:Int)≤16)=false:=Ad zD
  rw[Ad h,JB];clear h;go_enter Tryz.func84,Tryz.ntmps84;go_wp2_with fail;go_ret;exact⟨rfl,Below.refl _ _⟩
theorem Jn{α:Type}(l:List α):((l.length:Int)==0)=decide (l.length=0):=by
 rw[ED];simp
theorem RC(se sn tl:Int):(se==0&&(sn==0&&tl==0))=decide ((⟨se,sn,tl⟩:IV)=P9):=by
 rw[ED];simp[P9]
theorem LI(m:Msg)(a1:Option Addr)(c1:Nat)(a2:Option Addr)(c2:Nat)(a3:Option Addr)(c3:Nat)(a4:Option Addr)(c4:Nat)(w:World)(h:AH (·<w.heap.size) w m a1 c1 a2 c2 a3 c3 a4 c4)(hbk:∀x∈m.links,x.backs.length≤1000000000000):
  Calls Tryz.prog 19 #[.agg VA] w fun r w'=>r=.returned (.bool (JL m))∧Below w.heap.size w w':=by
 have hM:JL m=(decide (1≤m.kind∧m.kind≤14)&&(Cg (AM m.kind 1) (poR m.pos) (m.pos==0)&&(Cg (AM m.kind 2) (decide (1≤m.count)&&decide (m.count≤65536)) (m.count==0)&&
   (Cg (AM m.kind 4) (decide (1≤m.state)&&decide (m.state≤Dn m.kind)) (m.state==0)&&(Cg (AM m.kind 8) (decide (m.streams.length≤16)&&Ck m.streams) ((m.streams.length:Int)==0)&&
   (Cg (AM m.kind 16) (Dz m.pos m.links) ((m.links.length:Int)==0)&&(Cg (AM m.kind 64) (Hk m.sea) (m.sea.epoch==0&&(m.sea.node==0&&m.sea.tail==0))&&
   (Cg (AM m.kind 128) (El m.proj) (m.proj.epoch==0&&(m.proj.stripes.length:Int)==0)&&(((m.data.length:Int)==0) || (Ch m.kind m.state&&decide (m.data.length≤1048576))))))))))):=by
  unfold JL;rw[Jn,Jn,Jn,Jn,RC,Bool.decide_and,Bool.decide_and,Bool.decide_and];rfl
 have HPO:=hid (fun W:World=>JU m.pos W);have HMO:=hid (fun W:World=>MS m.kind W);have HST:=hid (fun (W:World) (hW:Below w.heap.size w W)=>NA m.streams a1 _ c1 W (lift h.streams hW));have HLK:=hid (fun (W:World) (hW:Below w.heap.size w W)=>Qe m.pos m.links a2 _ c2 W h.pos (lift h.links hW) hbk);have HSE:=hid (fun (W:World)=>Pk m.sea h.sealE W);have HPR:=hid (fun (W:World) (hW:Below w.heap.size w W)=>PQ m.proj.epoch m.proj.stripes a4 _ c4 W (lift h.stripes hW));have HHD:=hid (fun (W:World)=>GZ m a1 c1 a2 c2 a3 c3 a4 c4 W);obtain⟨kk,ep,sq,po,cn,st,SS,LS,DD,⟨se,sn,tl⟩,⟨pe,PL⟩⟩:=m;dsimp only at*;have HW1:Hid (∀W:World,Calls Tryz.prog 81 #[.int .i64 kk,.int .i64 1,.bool (poR po),.bool (po==0)] W fun e w'=>e=.returned (.bool (Cg (AM kk 1) (poR po) (po==0)))∧Below W.heap.size W w'):=hid (fun W=>D8 kk 1 zW (poR po) (po==0) W);have HW2:Hid (∀W:World,Calls Tryz.prog 81 #[.int .i64 kk,.int .i64 2,.bool (decide (1≤cn)&&decide (cn≤65536)),.bool (cn==0)] W fun e w'=>e=.returned (.bool (Cg (AM kk 2) (decide (1≤cn)&&decide (cn≤65536)) (cn==0)))∧Below W.heap.size W w'):=hid (fun W=>D8 kk 2 zW (decide (1≤cn)&&decide (cn≤65536)) (cn==0) W);have HW4:Hid (∀W:World,Calls Tryz.prog 81 #[.int .i64 kk,.int .i64 4,.bool (decide (1≤st)&&decide (st≤Dn kk)),.bool (st==0)] W fun e w'=>e=.returned (.bool (Cg (AM kk 4) (decide (1≤st)&&decide (st≤Dn kk)) (st==0)))∧Below W.heap.size W w'):=hid (fun W=>D8 kk 4 zW (decide (1≤st)&&decide (st≤Dn kk)) (st==0) W);have HW8:Hid (∀W:World,Calls Tryz.prog 81 #[.int .i64 kk,.int .i64 8,.bool (decide (SS.length≤16)&&Ck SS),.bool ((SS.length:Int)==0)] W fun e w'=>e=.returned (.bool (Cg (AM kk 8) (decide (SS.length≤16)&&Ck SS) ((SS.length:Int)==0)))∧Below W.heap.size W w'):=hid (fun W=>D8 kk 8 zW (decide (SS.length≤16)&&Ck SS) ((SS.length:Int)==0) W);have HW16:Hid (∀W:World,Calls Tryz.prog 81 #[.int .i64 kk,.int .i64 16,.bool (Dz po LS),.bool ((LS.length:Int)==0)] W fun e w'=>e=.returned (.bool (Cg (AM kk 16) (Dz po LS) ((LS.length:Int)==0)))∧Below W.heap.size W w'):=hid (fun W=>D8 kk 16 zW (Dz po LS) ((LS.length:Int)==0) W);have HW64:Hid (∀W:World,Calls Tryz.prog 81 #[.int .i64 kk,.int .i64 64,.bool (Hk ⟨se,sn,tl⟩),.bool (se==0&&(sn==0&&tl==0))] W fun e w'=>e=.returned (.bool (Cg (AM kk 64) (Hk ⟨se,sn,tl⟩) (se==0&&(sn==0&&tl==0))))∧Below W.heap.size W w'):=hid (fun W=>D8 kk 64 zW (Hk ⟨se,sn,tl⟩) (se==0&&(sn==0&&tl==0)) W);have HW128:Hid (∀W:World,Calls Tryz.prog 81 #[.int .i64 kk,.int .i64 128,.bool (El ⟨pe,PL⟩),.bool (pe==0&&(PL.length:Int)==0)] W fun e w'=>e=.returned (.bool (Cg (AM kk 128) (El ⟨pe,PL⟩) (pe==0&&(PL.length:Int)==0)))∧Below W.heap.size W w'):=hid (fun W=>D8 kk 128 zW (El ⟨pe,PL⟩) (pe==0&&(PL.length:Int)==0) W);generalize Cg (AM kk 1) (poR po) (po==0)=B1 at*;generalize Cg (AM kk 2) (decide (1≤cn)&&decide (cn≤65536)) (cn==0)=B2 at*;generalize Cg (AM kk 4) (decide (1≤st)&&decide (st≤Dn kk)) (st==0)=B4 at*;generalize Cg (AM kk 8) (decide (SS.length≤16)&&Ck SS) ((SS.length:Int)==0)=B8 at*;generalize Cg (AM kk 16) (Dz po LS) ((LS.length:Int)==0)=B16 at*;generalize Cg (AM kk 64) (Hk ⟨se,sn,tl⟩) (se==0&&(sn==0&&tl==0))=B64 at*;generalize Cg (AM kk 128) (El ⟨pe,PL⟩) (pe==0&&(PL.length:Int)==0)=B128 at*;generalize poR po=R1 at*;generalize Dz po LS=R16 at*;generalize Hk ⟨se,sn,tl⟩=R64 at*;generalize El ⟨pe,PL⟩=R128 at*;generalize (decide (SS.length≤16)&&Ck SS)=R8 at*;generalize Dn kk=MK at*;generalize hK:decide (1≤kk∧kk≤14)=K at*;have HKR:=hid (fun W:World=>GV kk W);rw[hK] at HKR;have HM:=hid hM;generalize JL ⟨kk,ep,sq,po,cn,st,SS,LS,DD,⟨se,sn,tl⟩,⟨pe,PL⟩⟩=MM at*;have hb0:Below w.heap.size w (w.alloc (.cells VB 32)):=zC;have HBX:Hid (Blk (w.alloc (.cells VB 32)) w.heap.size 32 VB):=hid (Blk.new w _ _);clear hM hK h hbk;go_enter Tryz.func19,Tryz.ntmps19;go_wp2_with fail;generalize (w.alloc (.cells VB 32))=w0 at*;have HB0:=hid hb0;clear hb0;refine (HKR.out _).mono ?_;rintro r w0' ⟨rfl,rfl⟩;have HB1:Hid (Below w0.heap.size w0 w0):=hid (Below.refl _ _);cases K
 ·have hff:Hid (MM=false):=hid (by rw[HM.out];rfl)
  go_wp2_with fail;go_ret;exact⟨zQ,HB0.out.trans (HB1.out.mono HB0.out.size)⟩
 ·go_upto_region 4 with (fail)
  go_cut [24] from 25 to 33 (fun v V=>v=.bool (!B1)∧Below w0.heap.size w0 V)
  case first=>
   have HX:=hid (HBX.out.later HB1.out);have Y3:=fun s:AS w0=>s.cell (HX.out.cell 3:w0.cell? ⟨w.heap.size,3,none⟩=some (.int .u64 po));refine AI zL zL ?_;repeat (go_big_quiet_step ((first | (go_at_call 82;with_reducible exact Lo (HPO.out _)) | (go_at_call 81;with_reducible exact Bv (HW1.out _)))))
   refine A8 ?_;rintro W5 ⟨⟨W5',hb5⟩,rfl⟩;go_wp2_with fail;go_meet
   case rel=>exact ⟨rfl,Ag hb5 HB1.out⟩
  case rest=>
   obtain⟨rfl,hbc⟩:=hcut;have HB2:=hid hbc;clear hbc;obtain⟨w1,hwn⟩:∃W:World,W=wc:=⟨_,rfl⟩;subst hwn;cases B1
   ·have hff:Hid (MM=false):=hid zBc
    go_wp2_with fail;go_ret;exact⟨zQ,HB0.out.trans (HB2.out.mono HB0.out.size)⟩
   ·go_upto_region 5 with (fail)
    go_cut [34] from 35 to 48 (fun v V=>v=.bool (!B2)∧Below w0.heap.size w0 V)
    case first=>
     have HX:=hid (HBX.out.later HB2.out);have y4:w1.cell? ⟨w.heap.size,4,none⟩=some (.int .i64 cn):=HX.out.cell 4;have HBW:=hid (HB0.out.trans (HB2.out.mono HB0.out.size));cases hc:decide (1≤cn)
     ·have HWc:=HW2.out
      rw[hc,JB] at HWc;have HWd:=hid HWc;clear HWc;go_wp2_with fail;refine (HWd.out _).mono ?_;rintro r w5 ⟨rfl,hb5⟩;go_wp2_with fail;go_meet
      case rel=>exact ⟨rfl,Ag hb5 HB2.out⟩
     ·have HWc:=HW2.out
      rw[hc,Cw] at HWc;have HWd:=hid HWc;clear HWc;go_wp2_with fail;refine (HWd.out _).mono ?_;rintro r w5 ⟨rfl,hb5⟩;go_wp2_with fail;go_meet
      case rel=>exact ⟨rfl,Ag hb5 HB2.out⟩
    case rest=>
     obtain⟨rfl,hbc⟩:=hcut;have HB3:=hid hbc;clear hbc;obtain⟨w2,hwn⟩:∃W:World,W=wc:=⟨_,rfl⟩;subst hwn;cases B2
     ·have hff:Hid (MM=false):=hid zBc
      go_wp2_with fail;go_ret;exact⟨zQ,HB0.out.trans (HB3.out.mono HB0.out.size)⟩
     ·go_upto_region 6 with (fail)
      go_cut [49] from 50 to 65 (fun v V=>v=.bool (!B4)∧Below w0.heap.size w0 V)
      case first=>
       have HX:=hid (HBX.out.later HB3.out);have Y5:=fun s:AS w2=>s.cell (HX.out.cell 5:w2.cell? ⟨w.heap.size,5,none⟩=some (.int .i64 st));cases hc:decide (1≤st)
       ·have HWc:=HW4.out
        rw[hc,JB] at HWc;have HWd:=hid HWc;clear HWc;refine AI zL zL ?_;repeat (go_big_quiet_step ((first | (go_at_call 81;with_reducible exact Bv (HWd.out _)))))
        refine A8 ?_;rintro W5 ⟨⟨W5',hb5⟩,rfl⟩;go_wp2_with fail;go_meet
        case rel=>exact ⟨rfl,Ag hb5 HB3.out⟩
       ·have HWc:=HW4.out
        rw[hc,Cw] at HWc;have HWd:=hid HWc;clear HWc;refine AI zL zL ?_;repeat (go_big_quiet_step ((first | (go_at_call 83;with_reducible exact Lo (HMO.out _)) | (go_at_call 81;with_reducible exact Bv (HWd.out _)))))
        refine A8 ?_;rintro W5 ⟨⟨W5',hb5⟩,rfl⟩;go_wp2_with fail;go_meet
        case rel=>exact ⟨rfl,Ag hb5 HB3.out⟩
      case rest=>
       obtain⟨rfl,hbc⟩:=hcut;have HB4:=hid hbc;clear hbc;obtain⟨w3,hwn⟩:∃W:World,W=wc:=⟨_,rfl⟩;subst hwn;cases B4
       ·have hff:Hid (MM=false):=hid zBc
        go_wp2_with fail;go_ret;exact⟨zQ,HB0.out.trans (HB4.out.mono HB0.out.size)⟩
       ·go_upto_region 7 with (fail)
        go_cut [66] from 67 to 76 (fun v V=>v=.bool (!B8)∧Below w0.heap.size w0 V)
        case first=>
         have HX:=hid (HBX.out.later HB4.out);have Y6:=fun s:AS w3=>s.cell (HX.out.cell 6:w3.cell? ⟨w.heap.size,6,none⟩=some (.slice a1 SS.length c1));have HS:=hid (fun s:AS w3=>HST.out s.at_ (Ag s.below (HB0.out.trans (HB4.out.mono HB0.out.size))));refine AI zL zL ?_;repeat (go_big_quiet_step ((first | (go_at_call 84;with_reducible exact Bv (HS.out _)) | (go_at_call 81;with_reducible exact Bv (HW8.out _)))))
         refine A8 ?_;rintro W5 ⟨⟨W5',hb5⟩,rfl⟩;go_wp2_with fail;go_meet
         case rel=>exact ⟨rfl,Ag hb5 HB4.out⟩
        case rest=>
         obtain⟨rfl,hbc⟩:=hcut;have HB5:=hid hbc;clear hbc;obtain⟨w4,hwn⟩:∃W:World,W=wc:=⟨_,rfl⟩;subst hwn;cases B8
         ·have hff:Hid (MM=false):=hid zBc
          go_wp2_with fail;go_ret;exact⟨zQ,HB0.out.trans (HB5.out.mono HB0.out.size)⟩
         ·go_upto_region 8 with (fail)
          go_cut [77] from 78 to 89 (fun v V=>v=.bool (!B16)∧Below w0.heap.size w0 V)
          case first=>
           have HX:=hid (HBX.out.later HB5.out);have Y3:=fun s:AS w4=>s.cell (HX.out.cell 3:w4.cell? ⟨w.heap.size,3,none⟩=some (.int .u64 po));have Y7:=fun s:AS w4=>s.cell (HX.out.cell 7:w4.cell? ⟨w.heap.size,7,none⟩=some (.slice a2 LS.length c2));have HS:=hid (fun s:AS w4=>HLK.out s.at_ (Ag s.below (HB0.out.trans (HB5.out.mono HB0.out.size))));refine AI zL zL ?_;repeat (go_big_quiet_step ((first | (go_at_call 85;with_reducible exact Bv (HS.out _)) | (go_at_call 81;with_reducible exact Bv (HW16.out _)))))
           refine A8 ?_;rintro W5 ⟨⟨W5',hb5⟩,rfl⟩;go_wp2_with fail;go_meet
           case rel=>exact ⟨rfl,Ag hb5 HB5.out⟩
          case rest=>
           obtain⟨rfl,hbc⟩:=hcut;have HB6:=hid hbc;clear hbc;obtain⟨w5,hwn⟩:∃W:World,W=wc:=⟨_,rfl⟩;subst hwn;cases B16
           ·have hff:Hid (MM=false):=hid zBc
            go_wp2_with fail;go_ret;exact⟨zQ,HB0.out.trans (HB6.out.mono HB0.out.size)⟩
           ·go_upto_region 9 with (fail)
            go_cut [90] from 91 to 100 (fun v V=>v=.bool (!B64)∧Below w0.heap.size w0 V)
            case first=>
             have HX:=hid (HBX.out.later HB6.out);have Y9:=fun s:AS w5=>s.cell (HX.out.cell 9:w5.cell? ⟨w.heap.size,9,none⟩=some (.int .u64 se));have Y10:=fun s:AS w5=>s.cell (HX.out.cell 10:w5.cell? ⟨w.heap.size,10,none⟩=some (.int .u64 sn));have Y11:=fun s:AS w5=>s.cell (HX.out.cell 11:w5.cell? ⟨w.heap.size,11,none⟩=some (.int .u64 tl));cases hc:(se==0)
             ·have HWc:=HW64.out
              rw[hc,JB] at HWc;have HWd:=hid HWc;clear HWc;refine AI zL zL ?_;repeat (go_big_quiet_step ((first | (go_at_call 86;with_reducible exact Bv (HSE.out _)) | (go_at_call 81;with_reducible exact Bv (HWd.out _)))))
              refine A8 ?_;rintro W5 ⟨⟨W5',hb5⟩,rfl⟩;go_wp2_with fail;go_meet
              case rel=>exact ⟨rfl,Ag hb5 HB6.out⟩
             ·cases hd:(sn==0)
              ·have HWc:=HW64.out
               rw[hc,hd,Cw,JB] at HWc;have HWd:=hid HWc;clear HWc;refine AI zL zL ?_;repeat (go_big_quiet_step ((first | (go_at_call 86;with_reducible exact Bv (HSE.out _)) | (go_at_call 81;with_reducible exact Bv (HWd.out _)))))
               refine A8 ?_;rintro W5 ⟨⟨W5',hb5⟩,rfl⟩;go_wp2_with fail;go_meet
               case rel=>exact ⟨rfl,Ag hb5 HB6.out⟩
              ·cases he:(tl==0)
               ·have HWc:=HW64.out
                rw[hc,hd,he,Cw,Cw] at HWc;have HWd:=hid HWc;clear HWc;refine AI zL zL ?_;repeat (go_big_quiet_step ((first | (go_at_call 86;with_reducible exact Bv (HSE.out _)) | (go_at_call 81;with_reducible exact Bv (HWd.out _)))))
                refine A8 ?_;rintro W5 ⟨⟨W5',hb5⟩,rfl⟩;go_wp2_with fail;go_meet
                case rel=>exact ⟨rfl,Ag hb5 HB6.out⟩
               ·have HWc:=HW64.out
                rw[hc,hd,he,Cw,Cw] at HWc;have HWd:=hid HWc;clear HWc;refine AI zL zL ?_;repeat (go_big_quiet_step ((first | (go_at_call 86;with_reducible exact Bv (HSE.out _)) | (go_at_call 81;with_reducible exact Bv (HWd.out _)))))
                refine A8 ?_;rintro W5 ⟨⟨W5',hb5⟩,rfl⟩;go_wp2_with fail;go_meet
                case rel=>exact ⟨rfl,Ag hb5 HB6.out⟩
            case rest=>
             obtain⟨rfl,hbc⟩:=hcut;have HB7:=hid hbc;clear hbc;obtain⟨w6,hwn⟩:∃W:World,W=wc:=⟨_,rfl⟩;subst hwn;cases B64
             ·have hff:Hid (MM=false):=hid zBc
              go_wp2_with fail;go_ret;exact⟨zQ,HB0.out.trans (HB7.out.mono HB0.out.size)⟩
             ·go_upto_region 10 with (fail)
              go_cut [101] from 102 to 118 (fun v V=>v=.bool (!B128)∧Below w0.heap.size w0 V)
              case first=>
               have HX:=hid (HBX.out.later HB7.out);have Y12:=fun s:AS w6=>s.cell (HX.out.cell 12:w6.cell? ⟨w.heap.size,12,none⟩=some (.int .u64 pe));have Y13:=fun s:AS w6=>s.cell (HX.out.cell 13:w6.cell? ⟨w.heap.size,13,none⟩=some (.slice a4 PL.length c4));have HS:=hid (fun s:AS w6=>HPR.out s.at_ (Ag s.below (HB0.out.trans (HB7.out.mono HB0.out.size))));cases hc:(pe==0)
               ·have HWc:=HW128.out
                rw[hc,JB] at HWc;have HWd:=hid HWc;clear HWc;refine AI zL zL ?_;repeat (go_big_quiet_step ((first | (go_at_call 87;with_reducible exact Bv (HS.out _)) | (go_at_call 81;with_reducible exact Bv (HWd.out _)))))
                refine A8 ?_;rintro W5 ⟨⟨W5',hb5⟩,rfl⟩;go_wp2_with fail;go_meet
                case rel=>exact ⟨rfl,Ag hb5 HB7.out⟩
               ·have HWc:=HW128.out
                rw[hc,Cw] at HWc;have HWd:=hid HWc;clear HWc;refine AI zL zL ?_;repeat (go_big_quiet_step ((first | (go_at_call 87;with_reducible exact Bv (HS.out _)) | (go_at_call 81;with_reducible exact Bv (HWd.out _)))))
                refine A8 ?_;rintro W5 ⟨⟨W5',hb5⟩,rfl⟩;go_wp2_with fail;go_meet
                case rel=>exact ⟨rfl,Ag hb5 HB7.out⟩
              case rest=>
               obtain⟨rfl,hbc⟩:=hcut;have HB8:=hid hbc;clear hbc;obtain⟨w7,hwn⟩:∃W:World,W=wc:=⟨_,rfl⟩;subst hwn;cases B128
               ·have hff:Hid (MM=false):=hid zBc
                go_wp2_with fail;go_ret;exact⟨zQ,HB0.out.trans (HB8.out.mono HB0.out.size)⟩
               ·go_upto_region 2 with (fail)
                have HX:=hid (HBX.out.later HB8.out);have y0:w7.cell? ⟨w.heap.size,0,none⟩=some (.int .i64 kk):=HX.out.cell 0;have y1:w7.cell? ⟨w.heap.size,1,none⟩=some (.int .u64 ep):=HX.out.cell 1;have y2:w7.cell? ⟨w.heap.size,2,none⟩=some (.int .u64 sq):=HX.out.cell 2;have y3:w7.cell? ⟨w.heap.size,3,none⟩=some (.int .u64 po):=HX.out.cell 3;have y4:w7.cell? ⟨w.heap.size,4,none⟩=some (.int .i64 cn):=HX.out.cell 4;have y5:w7.cell? ⟨w.heap.size,5,none⟩=some (.int .i64 st):=HX.out.cell 5;have y6:w7.cell? ⟨w.heap.size,6,none⟩=some (.slice a1 SS.length c1):=HX.out.cell 6;have y7:w7.cell? ⟨w.heap.size,7,none⟩=some (.slice a2 LS.length c2):=HX.out.cell 7;have y8:w7.cell? ⟨w.heap.size,8,none⟩=some (.slice a3 DD.length c3):=HX.out.cell 8;have y9:w7.cell? ⟨w.heap.size,9,none⟩=some (.int .u64 se):=HX.out.cell 9;have y10:w7.cell? ⟨w.heap.size,10,none⟩=some (.int .u64 sn):=HX.out.cell 10;have y11:w7.cell? ⟨w.heap.size,11,none⟩=some (.int .u64 tl):=HX.out.cell 11;have y12:w7.cell? ⟨w.heap.size,12,none⟩=some (.int .u64 pe):=HX.out.cell 12;have y13:w7.cell? ⟨w.heap.size,13,none⟩=some (.slice a4 PL.length c4):=HX.out.cell 13;have HBW:=hid (HB0.out.trans (HB8.out.mono HB0.out.size));have hfm:MM=(((DD.length:Int)==0) || (Ch kk st&&decide (DD.length≤1048576))):=by rw[HM.out];simp only[Cw]
                clear HX;generalize Ch kk st=BL at*;cases hc:((DD.length:Int)==0)
                ·cases BL
                 ·have hff:Hid (MM=false):=hid (by rw[hfm,hc];rfl)
                  clear hfm;go_wp2_with fail;refine (HHD.out _).mono ?_;rintro r w5 ⟨rfl,hb5⟩;have hbe:=Ag hb5 HBW.out;go_wp2_with fail;go_ret;exact⟨zQ,hbe⟩
                 ·have hff:Hid (MM=decide (DD.length≤1048576)):=hid (by rw[hfm,hc];rfl)
                  have hdd:decide ((DD.length:Int)≤1048576)=decide (DD.length≤1048576):=by
                   rw[ED];simp;omega
                  generalize decide (DD.length≤1048576)=DM at*;clear hfm;go_wp2_with fail;refine (HHD.out _).mono ?_;rintro r w5 ⟨rfl,hb5⟩;have hbe:=Ag hb5 HBW.out;have z8:=(hb5.cell (p:=⟨w.heap.size,8,none⟩) (DK _ _ y8)).trans y8;go_wp2_with fail;go_ret;exact⟨by rw[hff.out];first | rfl | (rw[←hdd];rfl),hbe⟩
                ·have hff:Hid (MM=true):=hid (by rw[hfm,hc];rfl)
                 clear hfm;go_wp2_with fail;go_ret;exact⟨zQ,HBW.out⟩
theorem PB(x y:Cq)(a a':Option Addr)(n c n' c':Nat)(w:World)(hx:De.r (·<w.heap.size) w [.slice a n c] x.sets)(hy:De.r (·<w.heap.size) w [.slice a' n' c'] y.sets):
  Calls Tryz.prog 170 #[.agg #[.int .u64 x.lo,.int .u64 x.hi,.slice a n c],.agg #[.int .u64 y.lo,.int .u64 y.hi,.slice a' n' c']] w fun r w'=>r=.returned (.bool (decide (x=y)))∧Below w.heap.size w w':=by
 obtain⟨rfl,hm,_,_⟩:=AU hx;obtain⟨rfl,hm',_,_⟩:=AU hy;obtain⟨p0,p1,D⟩:=x;obtain⟨q0,q1,D'⟩:=y;dsimp only at*;by_cases h0:p0=q0
 ·have e0:(p0 !=q0)=false:=by simp[h0]
  by_cases h1:p1=q1
  ·have e1:(p1 !=q1)=false:=by simp[h1]
   by_cases hlen:D.length=D'.length
   ·have HX:=hid hx;clear hx
    have HY:=hid hy;clear hy;have HL:=hid hlen;have el:((D.length:Int) !=(D'.length:Int))=false:=by simp[hlen]
    have hst0:Hid (decide ((⟨p0,p1,D⟩:Cq)=⟨q0,q1,D'⟩)=decide (D.drop 0=D'.drop 0)):=hid (by simp[h0,h1]);clear hlen h0 h1;go_enter Tryz.func170,Tryz.ntmps170;go_wp2_with fail;refine Cm (fun W=>Below w.heap.size w W∧w.heap.size+1<W.heap.size∧W.cell? ⟨w.heap.size,2,none⟩=some (.slice a D.length c)∧W.cell? ⟨w.heap.size+1,2,none⟩=some (.slice a' D'.length c')) ⟨zC,zP,zCu,zCu⟩ ?_;intro w1 ⟨hb2,hzb,s0,s1⟩;go_loopw [5] (fun i wr=>∃k:Nat,k≤D.length∧i=.int .i64 k∧Hid (decide ((⟨p0,p1,D⟩:Cq)=⟨q0,q1,D'⟩)=decide (D.drop k=D'.drop k))∧Below w1.heap.size w1 wr) (fun i _=>D.length-(intOf i).toNat)
    case atStart=>exact ⟨0,Ao _,rfl,hst0,Below.refl _ _⟩
    case round=>
     obtain⟨k,hk,rfl,hf,hb7⟩:=hrel;have hb:=Ag hb7 hb2;have t0:wr.cell? ⟨w.heap.size,2,none⟩=some (.slice a D.length c):=(AS.mk wr hb7).cell s0;have t1:wr.cell? ⟨w.heap.size+1,2,none⟩=some (.slice a' D'.length c'):=(AS.mk wr hb7).cell s1;have hz3:w.heap.size+1<wr.heap.size:=by have:=hb7.size;omega
     by_cases hlt:k<D.length
     ·have hlt':k<D'.length:=by rw[←HL.out];exact hlt
      obtain⟨b,o,hA,hbb,ax,cx,x0,xl⟩:=GK HX.out hlt;obtain⟨b',o',hA',hbb',ay,cy,y0,yl⟩:=GK HY.out hlt';have hst:=hid (FA D D' k hlt hlt');subst hA hA';have T0:=fun s:AS wr=>s.cell t0;have T1:=fun s:AS wr=>s.cell t1;have X0:=fun s:AS wr=>s.cell ((hb.cell (p:=⟨b,o+k,none⟩) hbb).trans x0);have Y0:=fun s:AS wr=>s.cell ((hb.cell (p:=⟨b',o'+k,none⟩) hbb').trans y0);clear x0 y0;generalize hlk:D[k]=u at*;generalize hlm:D'[k]=v at*;clear hlk hlm;have hs1:=hid (lift xl hb);have hs2:=hid (lift yl hb);clear xl yl;have hO:=fun s:AS wr=>JF u v ax ay _ cx _ cy s.at_ (lift hs1.out s.below) (lift hs2.out s.below);have i0:(0:Int)≤(k:Int):=zD;have i1:(k:Int)<(D.length:Int):=zD;have i2:(k:Int)<(D'.length:Int):=zD;have d1:decide ((k:Int)<(D.length:Int))=true:=Ae i1;by_cases huv:u=v
      ·rw[Ae huv] at hO
       have HO:=hid hO;clear hO;have hst':Hid (decide (D.drop k=D'.drop k)=decide (D.drop (k+1)=D'.drop (k+1))):=hid zB4;clear huv;go_wp2_with fail;refine AI zL zL ?_;repeat (go_big_quiet_step (((go_at_call 99;exact Bv (HO.out _)))))
       refine A8 ?_;rintro W5 ⟨⟨W5',hb5⟩,rfl⟩;go_wp2_with fail;go_roundw
       case rel=>exact ⟨k+1,zD,zZ,hid zBb,Ag hb5 hb7⟩
       case measure=>(simp[intOf];try omega)
      ·rw[Ad huv] at hO
       have HO:=hid hO;clear hO;have hff:Hid (decide ((⟨p0,p1,D⟩:Cq)=⟨q0,q1,D'⟩)=false):=hid zBl;clear huv;go_wp2_with fail;refine AI zL zL ?_;repeat (go_big_quiet_step (((go_at_call 99;exact Bv (HO.out _)))))
       refine A8 ?_;rintro W5 ⟨⟨W5',hb5⟩,rfl⟩;go_wp2_with fail;go_ret;exact⟨zQ,Ag hb5 hb⟩
     ·obtain rfl:k=D.length:=by omega
      have d1:decide ((D.length:Int)<(D.length:Int))=false:=Ad zD;have hff:Hid (decide ((⟨p0,p1,D⟩:Cq)=⟨q0,q1,D'⟩)=true):=hid ZN;go_wp2_with fail;go_ret;exact⟨zQ,hb⟩
   ·have hff:Hid (decide ((⟨p0,p1,D⟩:Cq)=⟨q0,q1,D'⟩)=false):=hid (by simp[h0,h1];rintro rfl;exact hlen rfl)
    have el:((D.length:Int) !=(D'.length:Int))=true:=zM;clear hlen hx hy;go_enter Tryz.func170,Tryz.ntmps170;go_wp2_with fail;go_ret;exact⟨zQ,zC⟩
  ·have e1:(p1 !=q1)=true:=by simpa using h1
   have hfin:Hid (decide ((⟨p0,p1,D⟩:Cq)=⟨q0,q1,D'⟩)=false):=hid (by simp[h0,h1]);clear hx hy;go_enter Tryz.func170,Tryz.ntmps170;go_wp2_with fail;go_ret;exact⟨ZJ,zA⟩
 ·have e0:(p0 !=q0)=true:=by simpa using h0
  have hfin:Hid (decide ((⟨p0,p1,D⟩:Cq)=⟨q0,q1,D'⟩)=false):=hid (by simp[h0]);clear hx hy;go_enter Tryz.func170,Tryz.ntmps170;go_wp2_with fail;go_ret;exact⟨ZJ,zA⟩
theorem Pz(x y:EC)(a a':Option Addr)(n c n' c':Nat)(w:World)(hx:A3.r (·<w.heap.size) w [.slice a n c] x.stripes)(hy:A3.r (·<w.heap.size) w [.slice a' n' c'] y.stripes):
  Calls Tryz.prog 101 #[.agg #[.int .u64 x.epoch,.slice a n c],.agg #[.int .u64 y.epoch,.slice a' n' c']] w fun r w'=>r=.returned (.bool (decide (x=y)))∧Below w.heap.size w w':=by
 obtain⟨rfl,hm,_,_⟩:=AU hx;obtain⟨rfl,hm',_,_⟩:=AU hy;obtain⟨p0,D⟩:=x;obtain⟨q0,D'⟩:=y;dsimp only at*;by_cases h0:p0=q0
 ·have e0:(p0 !=q0)=false:=by simp[h0]
  by_cases hlen:D.length=D'.length
  ·have HX:=hid hx;clear hx
   have HY:=hid hy;clear hy;have HL:=hid hlen;have el:((D.length:Int) !=(D'.length:Int))=false:=by simp[hlen]
   have hst0:Hid (decide ((⟨p0,D⟩:EC)=⟨q0,D'⟩)=decide (D.drop 0=D'.drop 0)):=hid (by simp[h0]);clear hlen h0;go_enter Tryz.func101,Tryz.ntmps101;go_wp2_with fail;refine Cm (fun W=>Below w.heap.size w W∧w.heap.size+1<W.heap.size∧W.cell? ⟨w.heap.size,1,none⟩=some (.slice a D.length c)∧W.cell? ⟨w.heap.size+1,1,none⟩=some (.slice a' D'.length c')) ⟨zC,zP,zCu,zCu⟩ ?_;intro w1 ⟨hb2,hzb,s0,s1⟩;go_loopw [5] (fun i wr=>∃k:Nat,k≤D.length∧i=.int .i64 k∧Hid (decide ((⟨p0,D⟩:EC)=⟨q0,D'⟩)=decide (D.drop k=D'.drop k))∧Below w1.heap.size w1 wr) (fun i _=>D.length-(intOf i).toNat)
   case atStart=>exact ⟨0,Ao _,rfl,hst0,Below.refl _ _⟩
   case round=>
    obtain⟨k,hk,rfl,hf,hb7⟩:=hrel;have hb:=Ag hb7 hb2;have t0:wr.cell? ⟨w.heap.size,1,none⟩=some (.slice a D.length c):=(AS.mk wr hb7).cell s0;have t1:wr.cell? ⟨w.heap.size+1,1,none⟩=some (.slice a' D'.length c'):=(AS.mk wr hb7).cell s1;have hz3:w.heap.size+1<wr.heap.size:=by have:=hb7.size;omega
    by_cases hlt:k<D.length
    ·have hlt':k<D'.length:=by rw[←HL.out];exact hlt
     obtain⟨b,o,hA,hbb,ax,cx,x0,x1,x2,xb0,xb1,xl⟩:=Gt HX.out hlt;obtain⟨b',o',hA',hbb',ay,cy,y0,y1,y2,yb0,yb1,yl⟩:=Gt HY.out hlt';have hst:=hid (FA D D' k hlt hlt');subst hA hA';have T0:=fun s:AS wr=>s.cell t0;have T1:=fun s:AS wr=>s.cell t1;have X0:=fun s:AS wr=>s.cell ((hb.cell (p:=⟨b,o+k*3,none⟩) hbb).trans x0);have X1:=fun s:AS wr=>s.cell ((hb.cell (p:=⟨b,o+k*3+1,none⟩) hbb).trans x1);have X2:=fun s:AS wr=>s.cell ((hb.cell (p:=⟨b,o+k*3+2,none⟩) hbb).trans x2);have Y0:=fun s:AS wr=>s.cell ((hb.cell (p:=⟨b',o'+k*3,none⟩) hbb').trans y0);have Y1:=fun s:AS wr=>s.cell ((hb.cell (p:=⟨b',o'+k*3+1,none⟩) hbb').trans y1);have Y2:=fun s:AS wr=>s.cell ((hb.cell (p:=⟨b',o'+k*3+2,none⟩) hbb').trans y2);clear x0 x1 x2 y0 y1 y2 xb0 xb1 yb0 yb1;generalize hlk:D[k]=u at*;generalize hlm:D'[k]=v at*;clear hlk hlm;have hs1:=hid (lift xl hb);have hs2:=hid (lift yl hb);clear xl yl;have hO:=fun s:AS wr=>PB u v ax ay _ cx _ cy s.at_ (lift hs1.out s.below) (lift hs2.out s.below);have i0:(0:Int)≤(k:Int):=zD;have i1:(k:Int)<(D.length:Int):=zD;have i2:(k:Int)<(D'.length:Int):=zD;have d1:decide ((k:Int)<(D.length:Int))=true:=Ae i1;by_cases huv:u=v
     ·rw[Ae huv] at hO
      have HO:=hid hO;clear hO;have hst':Hid (decide (D.drop k=D'.drop k)=decide (D.drop (k+1)=D'.drop (k+1))):=hid zB4;clear huv;go_wp2_with fail;refine AI zL zL ?_;repeat (go_big_quiet_step (((go_at_call 170;exact Bv (HO.out _)))))
      refine A8 ?_;rintro W5 ⟨⟨W5',hb5⟩,rfl⟩;go_wp2_with fail;go_roundw
      case rel=>exact ⟨k+1,zD,zZ,hid zBb,Ag hb5 hb7⟩
      case measure=>(simp[intOf];try omega)
     ·rw[Ad huv] at hO
      have HO:=hid hO;clear hO;have hff:Hid (decide ((⟨p0,D⟩:EC)=⟨q0,D'⟩)=false):=hid zBl;clear huv;go_wp2_with fail;refine AI zL zL ?_;repeat (go_big_quiet_step (((go_at_call 170;exact Bv (HO.out _)))))
      refine A8 ?_;rintro W5 ⟨⟨W5',hb5⟩,rfl⟩;go_wp2_with fail;go_ret;exact⟨zQ,Ag hb5 hb⟩
    ·obtain rfl:k=D.length:=by omega
     have d1:decide ((D.length:Int)<(D.length:Int))=false:=Ad zD;have hff:Hid (decide ((⟨p0,D⟩:EC)=⟨q0,D'⟩)=true):=hid ZN;go_wp2_with fail;go_ret;exact⟨zQ,hb⟩
  ·have hff:Hid (decide ((⟨p0,D⟩:EC)=⟨q0,D'⟩)=false):=hid (by simp[h0];rintro rfl;exact hlen rfl)
   have el:((D.length:Int) !=(D'.length:Int))=true:=zM;clear hlen hx hy;go_enter Tryz.func101,Tryz.ntmps101;go_wp2_with fail;go_ret;exact⟨zQ,zC⟩
 ·have e0:(p0 !=q0)=true:=by simpa using h0
  have hfin:Hid (decide ((⟨p0,D⟩:EC)=⟨q0,D'⟩)=false):=hid (by simp[h0]);clear hx hy;go_enter Tryz.func101,Tryz.ntmps101;go_wp2_with fail;go_ret;exact⟨ZJ,zA⟩
theorem AH.tr{S':Nat→Prop}{a1 c1 a2 c2 a3 c3 a4 c4}(f:∀{α:Type} (A:Rp α) (cs:List Value) (x:α),A.r S w cs x→A.r S' w' cs x)(h:AH S w m a1 c1 a2 c2 a3 c3 a4 c4):AH S' w' m a1 c1 a2 c2 a3 c3 a4 c4:=
 ⟨h.kind,h.epoch,h.seq,h.pos,h.count,h.state,h.sealE,h.sealN,h.sealT,h.projE,f _ _ _ h.streams,f _ _ _ h.links,f _ _ _ h.data,f _ _ _ h.stripes⟩
structure Hd(w:World)(g base most:Nat)(J:List UInt8)(a:Option Addr)(c A B:Nat)(m:Msg)(a1:Option Addr)(c1:Nat)(a2:Option Addr)(c2:Nat)(a3:Option Addr)(c3:Nat)(a4:Option Addr)(c4:Nat):Prop where
 pen:Cl w g base most J a c
 pa:Blk w A 38 #[.pointer (some ⟨g,0,none⟩)]
 pb:Blk w B 32 VA
 na:¬DH g a A
 nb:¬DH g a B
 data:AH (fun q=>q<w.heap.size∧¬DH g a q) w m a1 c1 a2 c2 a3 c3 a4 c4
theorem Hd.later{B:Nat}(h:Hd w g base most J a c A B m a1 c1 a2 c2 a3 c3 a4 c4)(hb:Below w.heap.size w w'):Hd w' g base most J a c A B m a1 c1 a2 c2 a3 c3 a4 c4:=
 ⟨h.pen.later hb,h.pa.later hb,h.pb.later hb,h.na,h.nb,AH.tr (fun A cs x hx=>Mv hb hx) h.data⟩
theorem Hd.step{B:Nat}(h:Hd w g base most J a c A B m a1 c1 a2 c2 a3 c3 a4 c4)(k:Ay w g base most J' a w'):∃a' c',Hd w' g base most J' a' c' A B m a1 c1 a2 c2 a3 c3 a4 c4∧Tch (DH g a) w w'∧(a'.map Addr.block=a.map Addr.block∨∃q,a'.map Addr.block=some q∧w.heap.size≤q):=by
 obtain⟨a',c',k1,k2,k3⟩:=k;exact⟨a',c',⟨k1,h.pa.tch k2 h.na,h.pb.tch k2 h.nb,Ff k3 h.pa.lt h.na,Ff k3 h.pb.lt h.nb,AH.tr (fun A cs x hx=>Tf k2 k3 hx) h.data⟩,k2,k3⟩
theorem AH.low{g:Nat}{a:Option Addr}{w:World}{m:Msg}{a1 c1 a2 c2 a3 c3 a4 c4}(h:AH (fun q=>q<w.heap.size∧¬DH g a q) w m a1 c1 a2 c2 a3 c3 a4 c4):AH (·<w.heap.size) w m a1 c1 a2 c2 a3 c3 a4 c4:=AH.tr (fun A cs x hx=>Uj hx) h
theorem Ui{w:World}{g base most:Nat}{J:List UInt8}{a:Option Addr}{B:Nat}{m:Msg}(h:Hd w g base most J a c A B m a1 c1 a2 c2 a3 c3 a4 c4)(hR:poR m.pos=true)(hfit:J.length+(A5 m.pos.toNat).length≤most)(hln:J.length+(A5 m.pos.toNat).length≤100000000000000):
  Calls Tryz.prog 63 #[.pointer (some ⟨A,0,none⟩),.pointer (some ⟨B,0,none⟩)] w fun r w'=>r=.returned (.tuple #[])∧Ay w g base most (J++(A5 m.pos.toNat)) a w':=by
 have hp:=h.data.pos;have HV:=hid (by have:=Nw w h.pen m.pos.toNat (by rw[toNat_cast hp.1];exact hR) hfit hln;rw[toNat_cast hp.1] at this;exact this:Calls Tryz.prog 64 #[.pointer (some ⟨g,0,none⟩),.int .u64 m.pos] w fun r w'=>r=.returned (.tuple #[])∧Ay w g base most (J++A5 m.pos.toNat) a w');have p0:w.cell? ⟨A,0,none⟩=some (.pointer (some ⟨g,0,none⟩)):=h.pa.cell 0;have y3:w.cell? ⟨B,3,none⟩=some (.int .u64 m.pos):=h.pb.cell 3;clear h;go_enter Tryz.func63,Tryz.ntmps63;go_wp2_with fail;refine HV.out.mono ?_;rintro r w1 ⟨rfl,hst⟩;have HST:=hid hst;clear hst;go_wp2_with fail;first | go_end0 | refine Af (Av rfl _ _ _) rfl ?_
 exact⟨rfl,HST.out⟩
theorem RS{w:World}{g base most:Nat}{J:List UInt8}{a:Option Addr}{B:Nat}{m:Msg}(h:Hd w g base most J a c A B m a1 c1 a2 c2 a3 c3 a4 c4)(hR:1≤m.count∧m.count≤65536)(hfit:J.length+(A5 m.count.toNat).length≤most)(hln:J.length+(A5 m.count.toNat).length≤100000000000000):
  Calls Tryz.prog 65 #[.pointer (some ⟨A,0,none⟩),.pointer (some ⟨B,0,none⟩)] w fun r w'=>r=.returned (.tuple #[])∧Ay w g base most (J++(A5 m.count.toNat)) a w':=by
 have hc0:0≤m.count:=zD;have hc1:m.count≤65536:=hR.2;have HV:=hid (by have:=DQ w h.pen m.count.toNat zD hfit hln;rw[toNat_cast hc0] at this;exact this:Calls Tryz.prog 66 #[.pointer (some ⟨g,0,none⟩),.int .u64 m.count] w fun r w'=>r=.returned (.tuple #[])∧Ay w g base most (J++A5 m.count.toNat) a w');have p0:w.cell? ⟨A,0,none⟩=some (.pointer (some ⟨g,0,none⟩)):=h.pa.cell 0;have y4:w.cell? ⟨B,4,none⟩=some (.int .i64 m.count):=h.pb.cell 4;clear h;go_enter Tryz.func65,Tryz.ntmps65;go_wp2_with fail;refine HV.out.mono ?_;rintro r w1 ⟨rfl,hst⟩;have HST:=hid hst;clear hst;go_wp2_with fail;first | go_end0 | refine Af (Av rfl _ _ _) rfl ?_
 exact⟨rfl,HST.out⟩
theorem RO{w:World}{g base most:Nat}{J:List UInt8}{a:Option Addr}{B:Nat}{m:Msg}(h:Hd w g base most J a c A B m a1 c1 a2 c2 a3 c3 a4 c4)(hR:1≤m.state∧m.state≤20)(hfit:J.length+([UInt8.ofNat m.state.toNat]).length≤most)(hln:J.length+([UInt8.ofNat m.state.toNat]).length≤100000000000000):
  Calls Tryz.prog 67 #[.pointer (some ⟨A,0,none⟩),.pointer (some ⟨B,0,none⟩)] w fun r w'=>r=.returned (.tuple #[])∧Ay w g base most (J++([UInt8.ofNat m.state.toNat])) a w':=by
 have hc0:0≤m.state:=zD;have hc1:m.state≤20:=hR.2;have he:m.state=((UInt8.ofNat m.state.toNat).toNat:Int):=by
  have:=EZ (x:=m.state.toNat) zD;rw[toNat_cast hc0] at this;exact this
 have HV:=hid (fun (W:World) (hW:Below w.heap.size w W) (ad:Option Addr) (hD:Ah.r (·<W.heap.size) W [.slice ad 1 1] [UInt8.ofNat m.state.toNat])=>E0 W (h.pen.later hW) [UInt8.ofNat m.state.toNat] ad 1 1 hD hfit hln);have HL:=hid (fun W:World=>(by have:=KQ W (UInt8.ofNat m.state.toNat);rw[←he] at this;exact this:Ah.r (·<(W.alloc (.cells #[.int .u8 m.state] 5)).heap.size) (W.alloc (.cells #[.int .u8 m.state] 5)) [.slice (some ⟨W.heap.size,0,none⟩) 1 1] [UInt8.ofNat m.state.toNat]));have p0:w.cell? ⟨A,0,none⟩=some (.pointer (some ⟨g,0,none⟩)):=h.pa.cell 0;have y5:w.cell? ⟨B,5,none⟩=some (.int .i64 m.state):=h.pb.cell 5;clear h he;go_enter Tryz.func67,Tryz.ntmps67;go_wp2_with fail;refine (HV.out _ zA _ (HL.out w)).mono ?_;rintro r w1 ⟨rfl,hst⟩;have HST:=hid (Ay.later (w:=w) zA hst);clear hst;go_wp2_with fail;first | go_end0 | refine Af (Av rfl _ _ _) rfl ?_
 exact⟨rfl,HST.out⟩
theorem S6{w:World}{g base most:Nat}{J:List UInt8}{a:Option Addr}{B:Nat}{m:Msg}(h:Hd w g base most J a c A B m a1 c1 a2 c2 a3 c3 a4 c4)(X:List UInt8)(HC:AM m.kind 1=true→∀W:World,Below w.heap.size w W→Calls Tryz.prog 63 #[.pointer (some ⟨A,0,none⟩),.pointer (some ⟨B,0,none⟩)] W fun r w'=>r=.returned (.tuple #[])∧Ay W g base most (J++X) a w'):
  Calls Tryz.prog 61 #[.int .i64 1,.func (Fn.func 63) #[] #[.pointer (some ⟨A,0,none⟩),.pointer (some ⟨B,0,none⟩)],.pointer (some ⟨B,0,none⟩)] w fun r w'=>r=.returned (.tuple #[])∧Ay w g base most (J++BW (AM m.kind 1) X) a w':=by
 have HH:=hid (CZ m.kind 1 zW w);have HCC:=hid HC;have HP:=hid h.pen;have y0:w.cell? ⟨B,0,none⟩=some (.int .i64 m.kind):=h.pb.cell 0;clear h HC;generalize AM m.kind 1=H at*;go_enter Tryz.func61,Tryz.ntmps61;go_wp2_with fail;refine HH.out.mono ?_;rintro r w1 ⟨rfl,hb1⟩;have HB:=hid hb1;clear hb1;cases H
 ·go_wp2_with fail
  first | go_end0 | refine Af (Av rfl _ _ _) rfl ?_
  refine⟨rfl,?_⟩;have:=Ay.later HB.out (Ay.refl (HP.out.later HB.out));simpa [BW] using this
 ·have HD:=hid (HCC.out rfl w1 HB.out)
  go_wp2_with fail;refine HD.out.mono ?_;rintro r w2 ⟨rfl,hst⟩;have HST:=hid (Ay.later HB.out hst);clear hst;go_wp2_with fail;first | go_end0 | refine Af (Av rfl _ _ _) rfl ?_
  exact⟨rfl,HST.out⟩
theorem S4{w:World}{g base most:Nat}{J:List UInt8}{a:Option Addr}{B:Nat}{m:Msg}(h:Hd w g base most J a c A B m a1 c1 a2 c2 a3 c3 a4 c4)(X:List UInt8)(HC:AM m.kind 2=true→∀W:World,Below w.heap.size w W→Calls Tryz.prog 65 #[.pointer (some ⟨A,0,none⟩),.pointer (some ⟨B,0,none⟩)] W fun r w'=>r=.returned (.tuple #[])∧Ay W g base most (J++X) a w'):
  Calls Tryz.prog 61 #[.int .i64 2,.func (Fn.func 65) #[] #[.pointer (some ⟨A,0,none⟩),.pointer (some ⟨B,0,none⟩)],.pointer (some ⟨B,0,none⟩)] w fun r w'=>r=.returned (.tuple #[])∧Ay w g base most (J++BW (AM m.kind 2) X) a w':=by
 have HH:=hid (CZ m.kind 2 zW w);have HCC:=hid HC;have HP:=hid h.pen;have y0:w.cell? ⟨B,0,none⟩=some (.int .i64 m.kind):=h.pb.cell 0;clear h HC;generalize AM m.kind 2=H at*;go_enter Tryz.func61,Tryz.ntmps61;go_wp2_with fail;refine HH.out.mono ?_;rintro r w1 ⟨rfl,hb1⟩;have HB:=hid hb1;clear hb1;cases H
 ·go_wp2_with fail
  first | go_end0 | refine Af (Av rfl _ _ _) rfl ?_
  refine⟨rfl,?_⟩;have:=Ay.later HB.out (Ay.refl (HP.out.later HB.out));simpa [BW] using this
 ·have HD:=hid (HCC.out rfl w1 HB.out)
  go_wp2_with fail;refine HD.out.mono ?_;rintro r w2 ⟨rfl,hst⟩;have HST:=hid (Ay.later HB.out hst);clear hst;go_wp2_with fail;first | go_end0 | refine Af (Av rfl _ _ _) rfl ?_
  exact⟨rfl,HST.out⟩
theorem S3{w:World}{g base most:Nat}{J:List UInt8}{a:Option Addr}{B:Nat}{m:Msg}(h:Hd w g base most J a c A B m a1 c1 a2 c2 a3 c3 a4 c4)(X:List UInt8)(HC:AM m.kind 4=true→∀W:World,Below w.heap.size w W→Calls Tryz.prog 67 #[.pointer (some ⟨A,0,none⟩),.pointer (some ⟨B,0,none⟩)] W fun r w'=>r=.returned (.tuple #[])∧Ay W g base most (J++X) a w'):
  Calls Tryz.prog 61 #[.int .i64 4,.func (Fn.func 67) #[] #[.pointer (some ⟨A,0,none⟩),.pointer (some ⟨B,0,none⟩)],.pointer (some ⟨B,0,none⟩)] w fun r w'=>r=.returned (.tuple #[])∧Ay w g base most (J++BW (AM m.kind 4) X) a w':=by
 have HH:=hid (CZ m.kind 4 zW w);have HCC:=hid HC;have HP:=hid h.pen;have y0:w.cell? ⟨B,0,none⟩=some (.int .i64 m.kind):=h.pb.cell 0;clear h HC;generalize AM m.kind 4=H at*;go_enter Tryz.func61,Tryz.ntmps61;go_wp2_with fail;refine HH.out.mono ?_;rintro r w1 ⟨rfl,hb1⟩;have HB:=hid hb1;clear hb1;cases H
 ·go_wp2_with fail
  first | go_end0 | refine Af (Av rfl _ _ _) rfl ?_
  refine⟨rfl,?_⟩;have:=Ay.later HB.out (Ay.refl (HP.out.later HB.out));simpa [BW] using this
 ·have HD:=hid (HCC.out rfl w1 HB.out)
  go_wp2_with fail;refine HD.out.mono ?_;rintro r w2 ⟨rfl,hst⟩;have HST:=hid (Ay.later HB.out hst);clear hst;go_wp2_with fail;first | go_end0 | refine Af (Av rfl _ _ _) rfl ?_
  exact⟨rfl,HST.out⟩
theorem S0{w:World}{g base most:Nat}{J:List UInt8}{a:Option Addr}{B:Nat}{m:Msg}(h:Hd w g base most J a c A B m a1 c1 a2 c2 a3 c3 a4 c4)(X:List UInt8)(HC:AM m.kind 8=true→∀W:World,Below w.heap.size w W→Calls Tryz.prog 69 #[.pointer (some ⟨A,0,none⟩),.pointer (some ⟨B,0,none⟩)] W fun r w'=>r=.returned (.tuple #[])∧Ay W g base most (J++X) a w'):
  Calls Tryz.prog 61 #[.int .i64 8,.func (Fn.func 69) #[] #[.pointer (some ⟨A,0,none⟩),.pointer (some ⟨B,0,none⟩)],.pointer (some ⟨B,0,none⟩)] w fun r w'=>r=.returned (.tuple #[])∧Ay w g base most (J++BW (AM m.kind 8) X) a w':=by
 have HH:=hid (CZ m.kind 8 zW w);have HCC:=hid HC;have HP:=hid h.pen;have y0:w.cell? ⟨B,0,none⟩=some (.int .i64 m.kind):=h.pb.cell 0;clear h HC;generalize AM m.kind 8=H at*;go_enter Tryz.func61,Tryz.ntmps61;go_wp2_with fail;refine HH.out.mono ?_;rintro r w1 ⟨rfl,hb1⟩;have HB:=hid hb1;clear hb1;cases H
 ·go_wp2_with fail
  first | go_end0 | refine Af (Av rfl _ _ _) rfl ?_
  refine⟨rfl,?_⟩;have:=Ay.later HB.out (Ay.refl (HP.out.later HB.out));simpa [BW] using this
 ·have HD:=hid (HCC.out rfl w1 HB.out)
  go_wp2_with fail;refine HD.out.mono ?_;rintro r w2 ⟨rfl,hst⟩;have HST:=hid (Ay.later HB.out hst);clear hst;go_wp2_with fail;first | go_end0 | refine Af (Av rfl _ _ _) rfl ?_
  exact⟨rfl,HST.out⟩
theorem RQ{w:World}{g base most:Nat}{J:List UInt8}{a:Option Addr}{B:Nat}{m:Msg}(h:Hd w g base most J a c A B m a1 c1 a2 c2 a3 c3 a4 c4)(X:List UInt8)(HC:AM m.kind 16=true→∀W:World,Below w.heap.size w W→Calls Tryz.prog 71 #[.pointer (some ⟨A,0,none⟩),.pointer (some ⟨B,0,none⟩)] W fun r w'=>r=.returned (.tuple #[])∧Ay W g base most (J++X) a w'):
  Calls Tryz.prog 61 #[.int .i64 16,.func (Fn.func 71) #[] #[.pointer (some ⟨A,0,none⟩),.pointer (some ⟨B,0,none⟩)],.pointer (some ⟨B,0,none⟩)] w fun r w'=>r=.returned (.tuple #[])∧Ay w g base most (J++BW (AM m.kind 16) X) a w':=by
 have HH:=hid (CZ m.kind 16 zW w);have HCC:=hid HC;have HP:=hid h.pen;have y0:w.cell? ⟨B,0,none⟩=some (.int .i64 m.kind):=h.pb.cell 0;clear h HC;generalize AM m.kind 16=H at*;go_enter Tryz.func61,Tryz.ntmps61;go_wp2_with fail;refine HH.out.mono ?_;rintro r w1 ⟨rfl,hb1⟩;have HB:=hid hb1;clear hb1;cases H
 ·go_wp2_with fail
  first | go_end0 | refine Af (Av rfl _ _ _) rfl ?_
  refine⟨rfl,?_⟩;have:=Ay.later HB.out (Ay.refl (HP.out.later HB.out));simpa [BW] using this
 ·have HD:=hid (HCC.out rfl w1 HB.out)
  go_wp2_with fail;refine HD.out.mono ?_;rintro r w2 ⟨rfl,hst⟩;have HST:=hid (Ay.later HB.out hst);clear hst;go_wp2_with fail;first | go_end0 | refine Af (Av rfl _ _ _) rfl ?_
  exact⟨rfl,HST.out⟩
theorem RP{w:World}{g base most:Nat}{J:List UInt8}{a:Option Addr}{B:Nat}{m:Msg}(h:Hd w g base most J a c A B m a1 c1 a2 c2 a3 c3 a4 c4)(X:List UInt8)(HC:AM m.kind 64=true→∀W:World,Below w.heap.size w W→Calls Tryz.prog 75 #[.pointer (some ⟨A,0,none⟩),.pointer (some ⟨B,0,none⟩)] W fun r w'=>r=.returned (.tuple #[])∧Ay W g base most (J++X) a w'):
  Calls Tryz.prog 61 #[.int .i64 64,.func (Fn.func 75) #[] #[.pointer (some ⟨A,0,none⟩),.pointer (some ⟨B,0,none⟩)],.pointer (some ⟨B,0,none⟩)] w fun r w'=>r=.returned (.tuple #[])∧Ay w g base most (J++BW (AM m.kind 64) X) a w':=by
 have HH:=hid (CZ m.kind 64 zW w);have HCC:=hid HC;have HP:=hid h.pen;have y0:w.cell? ⟨B,0,none⟩=some (.int .i64 m.kind):=h.pb.cell 0;clear h HC;generalize AM m.kind 64=H at*;go_enter Tryz.func61,Tryz.ntmps61;go_wp2_with fail;refine HH.out.mono ?_;rintro r w1 ⟨rfl,hb1⟩;have HB:=hid hb1;clear hb1;cases H
 ·go_wp2_with fail
  first | go_end0 | refine Af (Av rfl _ _ _) rfl ?_
  refine⟨rfl,?_⟩;have:=Ay.later HB.out (Ay.refl (HP.out.later HB.out));simpa [BW] using this
 ·have HD:=hid (HCC.out rfl w1 HB.out)
  go_wp2_with fail;refine HD.out.mono ?_;rintro r w2 ⟨rfl,hst⟩;have HST:=hid (Ay.later HB.out hst);clear hst;go_wp2_with fail;first | go_end0 | refine Af (Av rfl _ _ _) rfl ?_
  exact⟨rfl,HST.out⟩
theorem PO{w:World}{g base most:Nat}{J:List UInt8}{a:Option Addr}{B:Nat}{m:Msg}(h:Hd w g base most J a c A B m a1 c1 a2 c2 a3 c3 a4 c4)(X:List UInt8)(HC:AM m.kind 128=true→∀W:World,Below w.heap.size w W→Calls Tryz.prog 77 #[.pointer (some ⟨A,0,none⟩),.pointer (some ⟨B,0,none⟩)] W fun r w'=>r=.returned (.tuple #[])∧Ay W g base most (J++X) a w'):
  Calls Tryz.prog 61 #[.int .i64 128,.func (Fn.func 77) #[] #[.pointer (some ⟨A,0,none⟩),.pointer (some ⟨B,0,none⟩)],.pointer (some ⟨B,0,none⟩)] w fun r w'=>r=.returned (.tuple #[])∧Ay w g base most (J++BW (AM m.kind 128) X) a w':=by
 have HH:=hid (CZ m.kind 128 zW w);have HCC:=hid HC;have HP:=hid h.pen;have y0:w.cell? ⟨B,0,none⟩=some (.int .i64 m.kind):=h.pb.cell 0;clear h HC;generalize AM m.kind 128=H at*;go_enter Tryz.func61,Tryz.ntmps61;go_wp2_with fail;refine HH.out.mono ?_;rintro r w1 ⟨rfl,hb1⟩;have HB:=hid hb1;clear hb1;cases H
 ·go_wp2_with fail
  first | go_end0 | refine Af (Av rfl _ _ _) rfl ?_
  refine⟨rfl,?_⟩;have:=Ay.later HB.out (Ay.refl (HP.out.later HB.out));simpa [BW] using this
 ·have HD:=hid (HCC.out rfl w1 HB.out)
  go_wp2_with fail;refine HD.out.mono ?_;rintro r w2 ⟨rfl,hst⟩;have HST:=hid (Ay.later HB.out hst);clear hst;go_wp2_with fail;first | go_end0 | refine Af (Av rfl _ _ _) rfl ?_
  exact⟨rfl,HST.out⟩
theorem Tt(k:Int):Dn k≤20:=by unfold Dn;split<;>omega
theorem UY{X:List UInt8}(hh:h=true):(BW h X).length=X.length:=by rw[hh];rfl
def Jf(m:Msg):List UInt8 × Int:=if JL m=true then (IK m,0) else ([],3)
def C7:Msg:=⟨0,0,0,0,0,0,[],[],[],⟨0,0,0⟩,⟨0,[]⟩⟩
theorem Qa(hk:inI m.kind)(he:inU m.epoch)(hs:inU m.seq)(hp:inU m.pos)(hc:inI m.count)(ht:inI m.state)(h1:m.streams=[])(h2:m.links=[])(h3:m.data=[])(h4:inU m.sea.epoch∧inU m.sea.node∧inU m.sea.tail)(h5:inU m.proj.epoch)(h6:m.proj.stripes=[]):AH S w m none 0 none 0 none 0 none 0:=by
 refine⟨hk,he,hs,hp,hc,ht,h4.1,h4.2.1,h4.2.2,h5,?_,?_,?_,?_⟩
 ·rw[h1];exact AZ (xs:=[]) rfl (Ao _) (Ao _) (.inl rfl)
 ·rw[h2];exact AZ (xs:=[]) rfl (Ao _) (Ao _) (.inl rfl)
 ·rw[h3];exact AZ (xs:=[]) rfl (Ao _) (Ao _) (.inl rfl)
 ·rw[h6];exact AZ (xs:=[]) rfl (Ao _) (Ao _) (.inl rfl)
def Rs.part{α:Type}(h:Bool)(s:Rs)(f:Rs→Rs × α)(z:α):Rs × α:=if h=true then f s else (s,z)
def Rs.Gy(B:List UInt8)(s:Rs):Rs × Int:=((s.po B).1,((s.po B).2:Int))
def Rs.cnt(B:List UInt8)(s:Rs):Rs × Int:=((s.many B 65536).1,((s.many B 65536).2:Int))
def Rs.stt(B:List UInt8)(k:Int)(s:Rs):Rs × Int:=
 let x:Int:=((s.byte B).2.toNat:Int)
 (if 1≤x∧x≤Dn k then (s.byte B).1 else (s.byte B).1.fail 3 s.p,x)
def Rs.IC(B:List UInt8)(s:Rs):Rs × List Int:=Rs.CL B (s.int B 16).2 (s.int B 16).1 []
structure Vp where
 pos:Int
 count:Int
 state:Int
 streams:List Int
 links:List BS
def Rs.ahead(B:List UInt8)(k:Int)(s:Rs):Rs × Vp:=
 let a:=Rs.part (AM k 1) s (Rs.Gy B) 0
 let b:=Rs.part (AM k 2) a.1 (Rs.cnt B) 0
 let c:=Rs.part (AM k 4) b.1 (Rs.stt B k) 0
 let d:=Rs.part (AM k 8) c.1 (Rs.IC B) []
 let e:=Rs.part (AM k 16) d.1 (fun t=>t.links B a.2) []
 (e.1,⟨a.2,b.2,c.2,d.2,e.2⟩)
def Rs.body(B:List UInt8)(blk:Rs→Rs × List UInt8 × Bool)(k:Int)(s:Rs):Rs × Msg × Bool:=
 if 1≤k∧k≤14 then
  let e:=s.ahead B k
  let f:=Rs.part (Ch k e.2.state) e.1 blk ([],true)
  let g:=Rs.part (AM k 64) f.1 (Rs.seal_ B) BE
  let h:=Rs.part (AM k 128) g.1 (Rs.Du B) Bx
  if h.1.k=0 then (h.1,⟨k,0,0,e.2.pos,e.2.count,e.2.state,e.2.streams,e.2.links,f.2.1,g.2,h.2⟩,f.2.2) else (h.1,C7,false)
 else (s.fail 7 s.p,C7,false)
section
variable {α:Type} {B:List UInt8} {s:Rs}
theorem Rs.Dl{f:Rs→Rs × α}{z:α}(hs:s.ok L)(hf:(f s).1.ok L):(Rs.part h s f z).1.ok L:=by
 unfold Rs.part;split
 ·exact hf
 ·exact hs
theorem Rs.UX(h:s.ok B.length):(s.po B).1.ok B.length:=by
 have h2:=Rs.CC (B:=B) h;unfold Rs.po;split
 ·split
  ·exact h2
  ·exact Rs.BH h2 zD
 ·exact h2
theorem Rs.Tb(h:s.ok B.length):(s.Gy B).1.ok B.length:=Rs.UX h
theorem Rs.TQ(h:s.ok B.length):(s.cnt B).1.ok B.length:=Rs.Ij h
theorem Rs.SJ(h:s.ok B.length):(s.stt B k).1.ok B.length:=by
 unfold Rs.stt;dsimp only;split
 ·exact Rs.Gl h
 ·exact Rs.BH (Rs.Gl h) zD
theorem Rs.QV(h:s.ok B.length):(s.IC B).1.ok B.length:=Rs.KL _ _ _ (Rs.Eh h)
theorem Rs.PU(h:s.k≠0):s.po B=(s,0):=by
 unfold Rs.po;rw[Rs.Dh h,Ak h]
theorem Rs.PT(h:s.k≠0):s.Gy B=(s,0):=by
 unfold Rs.Gy;rw[Rs.PU h];rfl
theorem Rs.Qw(h:s.k≠0):s.cnt B=(s,0):=by
 unfold Rs.cnt;rw[Rs.DW h];rfl
theorem Rs.NN(h:s.k≠0):s.IC B=(s,[]):=by
 unfold Rs.IC;rw[Rs.Hy h];rfl
theorem Rs.Pd(h:s.k≠0):s.stt B k=(s,0):=by
 unfold Rs.stt Rs.byte;rw[Rs.Hj h];dsimp only;rw[Rs.Bl h];simp
end
theorem Rs.T2(h:s.ok B.length):(s.ahead B k).1.ok B.length:=by
 unfold Rs.ahead;have h1:(Rs.part (AM k 1) s (Rs.Gy B) 0).1.ok B.length:=Rs.Dl h (Rs.Tb h);have h2:(Rs.part (AM k 2) (Rs.part (AM k 1) s (Rs.Gy B) 0).1 (Rs.cnt B) 0).1.ok B.length:=Rs.Dl h1 (Rs.TQ h1);have h3:=Rs.Dl (h:=AM k 4) (z:=0) h2 (Rs.SJ (k:=k) h2);have h4:=Rs.Dl (h:=AM k 8) (z:=[]) h3 (Rs.QV h3);exact Rs.Dl h4 (Rs.Ol h4)
theorem Rs.Uy{blk:Rs→Rs × List UInt8 × Bool}(h:s.ok B.length)(hb:∀t:Rs,t.ok B.length→(blk t).1.ok B.length):(s.body B blk k).1.ok B.length:=by
 unfold Rs.body;split
 ·have h1:=Rs.T2 (k:=k) h
  have h2:=Rs.Dl (h:=Ch k (s.ahead B k).2.state) (z:=([],true)) h1 (hb _ h1);have h3:=Rs.Dl (h:=AM k 64) (z:=BE) h2 (Rs.Q8 h2);have h4:=Rs.Dl (h:=AM k 128) (z:=Bx) h3 (Rs.Rb h3);dsimp only;split
  ·exact h4
  ·exact h4
 ·exact Rs.BH h zD
theorem Rs.Tj{α:Type}{f:Rs→Rs × α}{z:α}(hk:(Rs.part h s f z).1.k=0)(hf:(f s).1.k=0→s.k=0):s.k=0:=by
 cases h
 ·exact hk
 ·exact hf hk
theorem A9{P:Program}{f:Func}{Q:Ending→World→Prop}{e:Exit}{a:Act}(F:World→Prop)(hF:F w)(h:∀W,F W→bodyPost P f Q e a W):bodyPost P f Q e a w:=h w hF
theorem size_set(w:World)(p:Addr)(u:Value):(w.setCell p u).heap.size=w.heap.size:=ZQ
structure BJ(w:World)(g:Nat)(B:List UInt8)(a:Option Addr)(fn:Nat)(caps:Array Value)(blk:Rs→Rs × List UInt8 × Bool)(K:Nat→Prop)(X:World→Bool→Prop):Prop where
 lt:∀b,K b→b<w.heap.size
 own:K g
 st:∀W W' q,X W q→w.heap.size≤W.heap.size→Tch (fun b=>b=g∨w.heap.size≤b) W W'→X W' q
 call:∀W t q0,AY W g B a t→X W q0→w.heap.size≤W.heap.size→Tch K w W→Calls Tryz.prog fn caps W fun r W'=>∃v,r=.returned v∧Ah.r (CO W W') W' [v] (blk t).2.1∧AY W' g B a (blk t).1∧Tch K W W'∧X W' (blk t).2.2
 size:∀t,(blk t).2.1.length≤1048576
 dat:Ah.r (fun q=>q<w.heap.size∧¬K q) w [.slice a B.length B.length] B
 bad:∀t:Rs,t.k≠0→(blk t).1=t∧(blk t).2.1=[]
 ent:∀(xs:Array Value) (W:World),(callFunc fn xs).run Tryz.prog W=.ok (.enter fn xs) W
abbrev Cf(m:Msg)(v1 v2 v3 v4:Value):Array Value:=#[.int .i64 m.kind,.int .u64 m.epoch,.int .u64 m.seq,.int .u64 m.pos,.int .i64 m.count,.int .i64 m.state,v1,v2,v3,.int .u64 m.sea.epoch,.int .u64 m.sea.node,.int .u64 m.sea.tail,.int .u64 m.proj.epoch,v4]
abbrev zeroCells:Array Value:=#[.int .i64 0,.int .u64 0,.int .u64 0,.int .u64 0,.int .i64 0,.int .i64 0,.slice none 0 0,.slice none 0 0,.slice none 0 0,.int .u64 0,.int .u64 0,.int .u64 0,.int .u64 0,.slice none 0 0]
structure CA(w:World)(g:Nat)(B:List UInt8)(a:Option Addr)(K:Nat→Prop)(X:World→Bool→Prop)(q:Bool)(M lo:Nat)(k:Int)(m:Msg)(v1 v2 v3 v4:Value)(s:Rs)(W:World):Prop where
 rd:AY W g B a s
 dat:Ah.r (fun b=>b<w.heap.size∧¬K b) W [.slice a B.length B.length] B
 pa:Blk W w.heap.size 52 #[.pointer (some ⟨g,0,none⟩)]
 pk:Blk W (w.heap.size+1) 3 #[.int .i64 k]
 pr:Blk W (w.heap.size+1+1) 32 zeroCells
 pm:Blk W M 32 (Cf m v1 v2 v3 v4)
 lm:w.heap.size+1+1<M∧M<lo
 low:lo≤W.heap.size
 st:AV.r (fun b=>lo≤b∧b<W.heap.size) W [v1] m.streams
 ln:B6.r (fun b=>lo≤b∧b<W.heap.size) W [v2] m.links
 da:Ah.r (fun b=>lo≤b∧b<W.heap.size) W [v3] m.data
 sp:A3.r (fun b=>lo≤b∧b<W.heap.size) W [v4] m.proj.stripes
 tch:Tch K w W
 x:X W q
section
variable {w:World} {g:Nat} {B:List UInt8} {a:Option Addr} {K:Nat→Prop} {X:World→Bool→Prop} {q:Bool} {M lo:Nat} {k:Int} {m:Msg} {v1 v2 v3 v4:Value} {s:Rs} {W:World} {fn:Nat} {caps:Array Value} {blk:Rs→Rs × List UInt8 × Bool}
theorem CA.UC{q':Bool}(hU:BJ w g B a fn caps blk K X)(h:CA w g B a K X q M lo k m v1 v2 v3 v4 s W)(kt:Tch K W W')(kr:AY W' g B a s')(kx:X W' q'):CA w g B a K X q' M lo k m v1 v2 v3 v4 s' W':=by
 have hw:=h.tch.size;have hlm:=h.lm;have hK:∀b,w.heap.size≤b→¬K b:=fun b hb e=>absurd (hU.lt b e) zD;have hk:∀b,lo≤b∧b<W.heap.size→W'.heap[b]? =W.heap[b]? :=fun b hb=>kt.block b hb.2 (hK b zD);have hm:∀b,lo≤b∧b<W.heap.size→lo≤b∧b<W'.heap.size:=fun b hb=>⟨hb.1,Am hb.2 kt.size⟩;exact⟨kr,Ah.keep h.dat fun b hb=>kt.block b (Am hb.1 hw) hb.2,h.pa.tch kt (hK _ (Aj _)),h.pk.tch kt (hK _ zD),h.pr.tch kt (hK _ zD),h.pm.tch kt (hK _ zD),hlm,A4 h.low kt.size,
  AV.mono (AV.keep h.st hk) hm,B6.mono (B6.keep h.ln hk) hm,Ah.mono (Ah.keep h.da hk) hm,A3.mono (A3.keep h.sp hk) hm,h.tch.trans kt fun b _ e=>e,kx⟩
theorem CA.step(hU:BJ w g B a fn caps blk K X)(h:CA w g B a K X q M lo k m v1 v2 v3 v4 s W)(kk:AB W g B a s' W'):CA w g B a K X q M lo k m v1 v2 v3 v4 s' W':=
 h.UC hU (kk.2.mono fun b _ e=>e ▸ hU.own) kk.1 (hU.st W W' q h.x h.tch.size (kk.2.mono fun b _ e=> .inl e))
theorem CA.later(hU:BJ w g B a fn caps blk K X)(h:CA w g B a K X q M lo k m v1 v2 v3 v4 s W)(hb:Below W.heap.size W W'):CA w g B a K X q M lo k m v1 v2 v3 v4 s W':=h.step hU (AB.later h.rd hb)
theorem CA.Fw(hU:BJ w g B a fn caps blk K X)(h:CA w g B a K X q M lo k m v1 v2 v3 v4 s W)(i:Nat)(u:Value){m':Msg}{v1' v2' v3' v4':Value}(hc:(Cf m v1 v2 v3 v4).setIfInBounds i u=Cf m' v1' v2' v3' v4')
 (h1:AV.r (fun b=>lo≤b∧b<W.heap.size) W [v1'] m'.streams) (h2:B6.r (fun b=>lo≤b∧b<W.heap.size) W [v2'] m'.links) (h3:Ah.r (fun b=>lo≤b∧b<W.heap.size) W [v3'] m'.data) (h4:A3.r (fun b=>lo≤b∧b<W.heap.size) W [v4'] m'.proj.stripes):CA w g B a K X q M lo k m' v1' v2' v3' v4' s (W.setCell ⟨M,i,none⟩ u):=by
 have hw:=h.tch.size;have hlm:=h.lm;have hlow:=h.low;have hgw:g<w.heap.size:=hU.lt g hU.own;have hz:(W.setCell ⟨M,i,none⟩ u).heap.size=W.heap.size:=size_set _ _ _;have hT:Tch (fun b=>b=g∨w.heap.size≤b) W (W.setCell ⟨M,i,none⟩ u):=(Tch.refl _ _).setCell (fun _=> .inr zH) _;have hk:∀b,lo≤b∧b<W.heap.size→(W.setCell ⟨M,i,none⟩ u).heap[b]? =W.heap[b]? :=fun b hb=>Ap _ _ _ _ zBn;have hm:∀b,lo≤b∧b<W.heap.size→lo≤b∧b<(W.setCell ⟨M,i,none⟩ u).heap.size:=fun b hb=>⟨hb.1,zD⟩;have hd:Ah.r (fun b=>b<w.heap.size∧¬K b) (W.setCell ⟨M,i,none⟩ u) [.slice a B.length B.length] B:=Ah.keep h.dat fun b hb=>Ap _ _ _ _ zBn;refine⟨⟨Blk.far h.rd.blk zH _,Ah.mono hd fun b hb=>⟨ZS,fun e=>hb.2 (e ▸ hU.own)⟩,h.rd.ok⟩,hd,Blk.far h.pa zH _,Blk.far h.pk zH _,Blk.far h.pr zH _,?_,hlm,zD,
  AV.mono (AV.keep h1 hk) hm,B6.mono (B6.keep h2 hk) hm,Ah.mono (Ah.keep h3 hk) hm,A3.mono (A3.keep h4 hk) hm,h.tch.setCell (fun e=>absurd e zH) _,hU.st W _ q h.x hw hT⟩
 rw[←hc];exact h.pm.set i u
theorem CA.grow{W':World}(h:CA w g B a K X q M lo k m v1 v2 v3 v4 s W):AV.r (fun b=>lo≤b∧b<W.heap.size) W [v1] m.streams∧B6.r (fun b=>lo≤b∧b<W.heap.size) W [v2] m.links∧Ah.r (fun b=>lo≤b∧b<W.heap.size) W [v3] m.data∧A3.r (fun b=>lo≤b∧b<W.heap.size) W [v4] m.proj.stripes:=⟨h.st,h.ln,h.da,h.sp⟩
end
theorem AJ{v5 v6 v7 v8 v9 v10 v11 v12 v13:Value}(h:Blk w g t #[v0,v1,v2,v3,v4,v5,v6,v7,v8,v9,v10,v11,v12,v13]):
  w.cell? ⟨g,0,none⟩=some v0∧w.cell? ⟨g,1,none⟩=some v1∧w.cell? ⟨g,2,none⟩=some v2∧w.cell? ⟨g,3,none⟩=some v3∧w.cell? ⟨g,4,none⟩=some v4∧w.cell? ⟨g,5,none⟩=some v5∧w.cell? ⟨g,6,none⟩=some v6∧w.cell? ⟨g,7,none⟩=some v7∧w.cell? ⟨g,8,none⟩=some v8∧w.cell? ⟨g,9,none⟩=some v9∧w.cell? ⟨g,10,none⟩=some v10∧w.cell? ⟨g,11,none⟩=some v11∧w.cell? ⟨g,12,none⟩=some v12∧w.cell? ⟨g,13,none⟩=some v13∧g<w.heap.size:=
 ⟨h.cell 0,h.cell 1,h.cell 2,h.cell 3,h.cell 4,h.cell 5,h.cell 6,h.cell 7,h.cell 8,h.cell 9,h.cell 10,h.cell 11,h.cell 12,h.cell 13,h.lt⟩
theorem FZ{cs:Array Value}(h:Blk w g t cs)(i:Nat):w.frozen? ⟨g,i,none⟩=false:=h.free i
theorem Ju{w:World}{g:Nat}{B:List UInt8}{a:Option Addr}{s:Rs}(h:AY w g B a s)(p:Int)(R:Bool):
  Calls Tryz.prog 186 #[.pointer (some ⟨g,0,none⟩),.int .i64 p,.bool R] w fun r w'=>r=.returned (.tuple #[])∧AB w g B a (if R=true then s else s.fail 3 p) w':=by
 have HF:=hid (Br w h 3 p zD);have HR:=hid (AB.refl h);clear h;cases R
 ·go_enter Tryz.func186,Tryz.ntmps186
  go_wp2_with fail;refine HF.out.mono ?_;rintro r w1 ⟨rfl,hst⟩;have HST:=hid hst;clear hst;go_wp2_with fail;first | go_end0 | refine Af (Av rfl _ _ _) rfl ?_
  exact⟨rfl,HST.out⟩
 ·go_enter Tryz.func186,Tryz.ntmps186
  go_wp2_with fail;first | go_end0 | refine Af (Av rfl _ _ _) rfl ?_
  exact⟨rfl,HR.out⟩
theorem So{w:World}{g:Nat}{B:List UInt8}{a:Option Addr}{K:Nat→Prop}{X:World→Bool→Prop}{q:Bool}{M lo:Nat}{k:Int}{m:Msg}{v1 v2 v3 v4:Value}{s:Rs}{blk:Rs→Rs × List UInt8 × Bool}(hU:BJ w g B a fn caps blk K X)(hB:B.length≤1000000000)(h:CA w g B a K X q M lo k m v1 v2 v3 v4 s W)(p:Int):
  Calls Tryz.prog 182 #[.int .i64 p,.pointer (some ⟨w.heap.size,0,none⟩),.pointer (some ⟨M,0,none⟩)] W fun r W'=>r=.returned (.tuple #[])∧CA w g B a K X q M lo k {m with pos:=(s.Gy B).2} v1 v2 v3 v4 (s.Gy B).1 W':=by
 have p0:W.cell? ⟨w.heap.size,0,none⟩=some (.pointer (some ⟨g,0,none⟩)):=h.pa.cell 0;have HI:=hid h;have HUU:=hid hU;have HR:=hid (L1 W h.rd hB);clear h hU;go_enter Tryz.func182,Tryz.ntmps182;go_wp2_with fail;refine HR.out.mono ?_;rintro r w1 ⟨rfl,hst⟩;have HI1:=hid (HI.out.step HUU.out hst);have f3:=FZ HI1.out.pm 3;obtain⟨y0,y1,y2,y3,y4,y5,y6,y7,y8,y9,y10,y11,y12,y13,lm3⟩:=AJ HI1.out.pm;clear hst;go_wp2_with fail;first | go_end0 | refine Af (Av rfl _ _ _) rfl ?_
 exact⟨rfl,HI1.out.Fw HUU.out 3 _ zJ HI1.out.st HI1.out.ln HI1.out.da HI1.out.sp⟩
theorem OW{w:World}{g:Nat}{B:List UInt8}{a:Option Addr}{K:Nat→Prop}{X:World→Bool→Prop}{q:Bool}{M lo:Nat}{k:Int}{m:Msg}{v1 v2 v3 v4:Value}{s:Rs}{blk:Rs→Rs × List UInt8 × Bool}(hU:BJ w g B a fn caps blk K X)(hB:B.length≤1000000000)(h:CA w g B a K X q M lo k m v1 v2 v3 v4 s W)(p:Int):
  Calls Tryz.prog 184 #[.int .i64 p,.pointer (some ⟨w.heap.size,0,none⟩),.pointer (some ⟨M,0,none⟩)] W fun r W'=>r=.returned (.tuple #[])∧(p=s.p→CA w g B a K X q M lo k {m with count:=(s.cnt B).2} v1 v2 v3 v4 (s.cnt B).1 W'):=by
 have p0:W.cell? ⟨w.heap.size,0,none⟩=some (.pointer (some ⟨g,0,none⟩)):=h.pa.cell 0;have HI:=hid h;have HUU:=hid hU;have HR:=hid (DR W h.rd zD 65536 zD);unfold Rs.cnt Rs.many;generalize s.int B 65536=I at*;obtain⟨s1,n⟩:=I;dsimp only at*;generalize hFF:(if n=0 then s1.fail 3 (s.p:Int) else s1)=sF;have HFF:=hid hFF;clear hFF;clear h hU;go_enter Tryz.func184,Tryz.ntmps184;go_wp2_with fail;refine HR.out.mono ?_;rintro r w1 ⟨rfl,hst⟩;have HI1:=hid (HI.out.step HUU.out hst);have f4:=FZ HI1.out.pm 4;obtain⟨y0,y1,y2,y3,y4,y5,y6,y7,y8,y9,y10,y11,y12,y13,lm4⟩:=AJ HI1.out.pm;have HI2:=hid (HI1.out.Fw HUU.out 4 (.int .i64 (n:Int)) (m':={m with count:=(n:Int)}) (v1':=v1) (v2':=v2) (v3':=v3) (v4':=v4) ZB HI1.out.st HI1.out.ln HI1.out.da HI1.out.sp);have p1:w1.cell? ⟨w.heap.size,0,none⟩=some (.pointer (some ⟨g,0,none⟩)):=HI1.out.pa.cell 0;have p2:(w1.setCell ⟨M,4,none⟩ (.int .i64 (n:Int))).cell? ⟨w.heap.size,0,none⟩=some (.pointer (some ⟨g,0,none⟩)):=HI2.out.pa.cell 0;have HC:=hid (fun R=>Ju HI2.out.rd p R);by_cases hn:n=0
 ·have d1:decide ((0:Int)<(n:Int))=false:=Ad zD
  have HN:=hid hn;clear hst hn;go_wp2_with fail;refine (HC.out _).mono ?_;rintro r w3 ⟨rfl,hst⟩;have HI3:=hid (HI2.out.step HUU.out hst);clear hst;go_wp2_with fail;first | go_end0 | refine Af (Av rfl _ _ _) rfl ?_
  refine⟨rfl,fun e=> ?_⟩;subst e;have h3:=HI3.out;rw[Ad (show ¬0<n by have:=HN.out;omega)] at h3;rw[←HFF.out,An HN.out];exact h3
 ·have d1:decide ((0:Int)<(n:Int))=true:=Ae zD
  have HN:=hid hn;clear hst hn;go_wp2_with fail;refine (HC.out _).mono ?_;rintro r w3 ⟨rfl,hst⟩;have HI3:=hid (HI2.out.step HUU.out hst);clear hst;go_wp2_with fail;first | go_end0 | refine Af (Av rfl _ _ _) rfl ?_
  refine⟨rfl,fun e=> ?_⟩;have h3:=HI3.out;rw[Ae (show 0<n by have:=HN.out;omega)] at h3;rw[←HFF.out,Ak HN.out];exact h3
theorem AB.Qj(h:AY w g B a s)(k:AB w.drew g B a s' w'):AB w g B a s' w':=⟨k.1,(Tch.refl (·=g) w).drew.trans k.2 fun _ _ e=>e⟩
theorem OS{w:World}{g:Nat}{B:List UInt8}{a:Option Addr}{K:Nat→Prop}{X:World→Bool→Prop}{q:Bool}{M lo:Nat}{k:Int}{m:Msg}{v1 v2 v3 v4:Value}{s:Rs}{blk:Rs→Rs × List UInt8 × Bool}(hU:BJ w g B a fn caps blk K X)(hB:B.length≤1000000000)(h:CA w g B a K X q M lo k m v1 v2 v3 v4 s W)(p:Int):
  Calls Tryz.prog 187 #[.int .i64 p,.pointer (some ⟨w.heap.size,0,none⟩),.pointer (some ⟨M,0,none⟩),.pointer (some ⟨w.heap.size+1,0,none⟩)] W fun r W'=>r=.returned (.tuple #[])∧(p=s.p→CA w g B a K X q M lo k {m with state:=(s.stt B k).2} v1 v2 v3 v4 (s.stt B k).1 W'):=by
 have p0:W.cell? ⟨w.heap.size,0,none⟩=some (.pointer (some ⟨g,0,none⟩)):=h.pa.cell 0;have HI:=hid h;have HUU:=hid hU;have HR:=hid (KO W h.rd);have k0:W.cell? ⟨w.heap.size+1,0,none⟩=some (.int .i64 k):=h.pk.cell 0;have hb8:(s.byte B).2.toNat<256:=(s.byte B).2.toNat_lt;unfold Rs.stt;generalize s.byte B=I at*;obtain⟨s1,c⟩:=I;dsimp only at*;generalize c.toNat=n at*;generalize hFF:(if 1≤(n:Int)∧(n:Int)≤Dn k then s1 else s1.fail 3 (s.p:Int))=sF;have HFF:=hid hFF;clear hFF;have hI64:(-9223372036854775808:Int)≤(n:Int):=zD;have hI65:(n:Int)≤9223372036854775807:=zD;clear h hU;go_enter Tryz.func187,Tryz.ntmps187;go_wp2_with fail;refine HR.out.mono ?_;rintro r w1 ⟨rfl,hst⟩;have HI1:=hid (HI.out.step HUU.out hst);have f5:=FZ HI1.out.pm 5;obtain⟨y0,y1,y2,y3,y4,y5,y6,y7,y8,y9,y10,y11,y12,y13,lm5⟩:=AJ HI1.out.pm;have HI2:=hid (HI1.out.Fw HUU.out 5 (.int .i64 (n:Int)) (m':={m with state:=(n:Int)}) (v1':=v1) (v2':=v2) (v3':=v3) (v4':=v4) ZB HI1.out.st HI1.out.ln HI1.out.da HI1.out.sp);clear hst;go_wp2_with fail;generalize w1.setCell ⟨M,5,none⟩ (.int .i64 (n:Int))=w2 at*;have p2:w2.cell? ⟨w.heap.size,0,none⟩=some (.pointer (some ⟨g,0,none⟩)):=HI2.out.pa.cell 0;have k2:w2.cell? ⟨w.heap.size+1,0,none⟩=some (.int .i64 k):=HI2.out.pk.cell 0;have m2:w2.cell? ⟨M,5,none⟩=some (.int .i64 (n:Int)):=HI2.out.pm.cell 5;have l1:=HI2.out.pa.lt;have l2:=HI2.out.pk.lt;have l3:=HI2.out.pm.lt;have HRD:=hid (HI2.out.rd.later (show Below w2.heap.size w2 w2.drew from (Below.refl _ _).drew));have HC:=hid (fun R=>Ju HRD.out p R);have HMO:=hid (fun (V:World)=>MS k V);by_cases h1:1≤(n:Int)
 ·have d1:decide (1≤(n:Int))=true:=Ae h1
  obtain⟨R,hR⟩:∃R,R=decide ((n:Int)≤Dn k):=⟨_,rfl⟩;have HRR:=hid hR;clear hR;generalize hmk:Dn k=mk at*;have HMK:=hid hmk;clear hmk;refine AW (S:=fun w'=>w'.cell? ⟨w.heap.size,0,none⟩=some (.pointer (some ⟨g,0,none⟩))∧w'.cell? ⟨M,5,none⟩=some (.int .i64 (n:Int))∧w'.cell? ⟨w.heap.size+1,0,none⟩=some (.int .i64 k)) zL ⟨p2,m2,k2⟩ (fun hHeld=> ?_);refine Al (i:=0) (oi:=_) (v:=?_) rfl zG zG zG (fun _ _ _ h=>h) (Or.inl ⟨zT,?_⟩) zN ?_;rotate_left
  ·(intro w hSw;(try dsimp only at hSw);go_simp<;>with_reducible rfl)
  (try simp only[Act.put,Aa,Ab,Ac])
  refine Al (i:=1) (oi:=_) (v:=?_) rfl zG zG zG (fun _ _ _ h=>h) (Or.inl ⟨zT,?_⟩) zN ?_;rotate_left
  ·(intro w hSw;(try dsimp only at hSw);go_simp<;>with_reducible rfl)
  (try simp only[Act.put,Aa,Ab,Ac])
  refine Al (i:=2) (oi:=_) (v:=?_) rfl zG zG zG (fun _ _ _ h=>h) (Or.inl ⟨zT,?_⟩) zN ?_;rotate_left
  ·(intro w hSw;(try dsimp only at hSw);go_simp<;>with_reducible rfl)
  (try simp only[Act.put,Aa,Ab,Ac])
  refine Al (i:=3) (oi:=_) (v:=?_) rfl zG zG zG (fun _ _ _ h=>h) (Or.inl ⟨zT,?_⟩) zN ?_;rotate_left
  ·(intro w hSw;(try dsimp only at hSw);go_simp<;>with_reducible rfl)
  (try simp only[Act.put,Aa,Ab,Ac])
  refine Al (i:=4) (oi:=_) (v:=?_) rfl zG zG zG (fun _ _ _ h=>h) (Or.inl ⟨zT,?_⟩) zN ?_;rotate_left
  ·(intro w hSw;(try dsimp only at hSw);go_simp<;>with_reducible rfl)
  (try simp only[Act.put,Aa,Ab,Ac])
  refine Al (i:=5) (oi:=_) (v:=?_) rfl zG zG zG (fun _ _ _ h=>h) (Or.inl ⟨zT,?_⟩) zN ?_;rotate_left
  ·(intro w hSw;(try dsimp only at hSw);go_simp<;>with_reducible rfl)
  (try simp only[Act.put,Aa,Ab,Ac])
  refine Al (i:=6) (oi:=_) (v:=?_) rfl zG zG zG (fun _ _ _ h=>h) (Or.inl ⟨zL,?_⟩) zN ?_;rotate_left
  ·(intro w hSw;(try dsimp only at hSw);go_simp<;>with_reducible rfl)
  (try simp only[Act.put,Aa,Ab,Ac])
  refine Al (i:=7) (oi:=_) (v:=?_) rfl zG zG zG (fun _ _ _ h=>h) (Or.inl ⟨zL,?_⟩) zN ?_;rotate_left
  ·(intro w hSw;(try dsimp only at hSw);go_simp<;>with_reducible rfl)
  (try simp only[Act.put,Aa,Ab,Ac])
  refine Al (i:=8) (oi:=_) (v:=?_) rfl zG zG zG (fun _ _ _ h=>h) (Or.inl ⟨zL,?_⟩) zN ?_;rotate_left
  ·(intro w hSw;(try dsimp only at hSw);go_simp<;>with_reducible rfl)
  (try simp only[Act.put,Aa,Ab,Ac])
  (try simp only[AE,Az,AA,Act.put,Aa,Ab,Ac])
  refine AF (rs:=[9]) zG zP ?_;refine Ax (o:=_) rfl (fun K hK=> ?_) AllReadyH.nil
  (go_simp;go_at_call 83;refine (HMO.out _).mono ?_;rintro e1 w7 ⟨rfl,rfl⟩;(try dsimp only))
  refine hK.out _ _ ?_ (fun hHeld=> ?_)
  ·((try dsimp only);first | (refine⟨?_,?_,?_⟩<;>(first | assumption | (go_keep;done))) | (refine⟨?_,?_⟩<;>(first | assumption | (go_keep;done))) | assumption | (go_keep;done))
  clear hK K
  (try simp only[Act.put,Aa,Ab,Ac])
  refine Al (i:=10) (oi:=_) (v:=?_) rfl zG zG zG (fun _ _ _ h=>h) (Or.inl ⟨zL,?_⟩) zN ?_;rotate_left
  ·(intro w hSw;(try dsimp only at hSw);go_simp<;>with_reducible rfl)
  (try simp only[Act.put,Aa,Ab,Ac])
  refine Al (i:=11) (oi:=_) (v:=?_) rfl zG zG zG (fun _ _ _ h=>h) (Or.inl ⟨zT,?_⟩) zN ?_;rotate_left
  ·(intro w hSw;(try dsimp only at hSw);go_simp<;>with_reducible rfl)
  (try simp only[Act.put,Aa,Ab,Ac])
  (try simp only[AE,Az,AA,Act.put,Aa,Ab,Ac])
  rw[←HRR.out];refine AF (rs:=[12]) zG zP ?_;refine Ax (o:=_) rfl (fun K hK=> ?_) AllReadyH.nil
  (go_simp;go_at_call 186;refine (HC.out _).mono ?_;rintro e1 w8 ⟨rfl,hst8⟩;have HS8:=hid hst8;have n1:=(hst8.2.cell (p:=⟨w.heap.size,0,none⟩) (by exact l1) Z2).trans p2;have n2:=(hst8.2.cell (p:=⟨M,5,none⟩) (by exact l3) zCa).trans m2;have n3:=(hst8.2.cell (p:=⟨w.heap.size+1,0,none⟩) (by exact l2) Z2).trans k2;clear hst8;(try dsimp only))
  refine hK.out _ _ ?_ (fun hHeld=> ?_)
  ·((try dsimp only);first | (refine⟨?_,?_,?_⟩<;>(first | assumption | (go_keep;done))) | (refine⟨?_,?_⟩<;>(first | assumption | (go_keep;done))) | assumption | (go_keep;done))
  clear hK K
  (try simp only[Act.put,Aa,Ab,Ac])
  (try simp only[AE,Az,AA,Act.put,Aa,Ab,Ac])
  refine Bp zL ?_ _;go_wp2_with fail;first | go_end0 | refine Af (Av rfl _ _ _) rfl ?_
  refine⟨rfl,fun e=> ?_⟩;subst e;have hI3:=HI2.out.step HUU.out (AB.Qj HI2.out.rd HS8.out);have hEQ:(if R=true then s1 else s1.fail 3 (s.p:Int))=sF:=by
   rw[←HFF.out,HRR.out];by_cases hx:(n:Int)≤mk
   ·rw[An (Ae hx),An ⟨zD,hx⟩]
   ·rw[Ak (fun e=>hx (Cu e)),Ak (fun e=>hx e.2)]
  rw[hEQ] at hI3;exact hI3
 ·have d1:decide (1≤(n:Int))=false:=Ad h1
  refine AW (S:=fun w'=>w'.cell? ⟨w.heap.size,0,none⟩=some (.pointer (some ⟨g,0,none⟩))∧w'.cell? ⟨M,5,none⟩=some (.int .i64 (n:Int))∧w'.cell? ⟨w.heap.size+1,0,none⟩=some (.int .i64 k)) zL ⟨p2,m2,k2⟩ (fun hHeld=> ?_);refine Al (i:=0) (oi:=_) (v:=?_) rfl zG zG zG (fun _ _ _ h=>h) (Or.inl ⟨zT,?_⟩) zN ?_;rotate_left
  ·(intro w hSw;(try dsimp only at hSw);go_simp<;>with_reducible rfl)
  (try simp only[Act.put,Aa,Ab,Ac])
  refine Al (i:=1) (oi:=_) (v:=?_) rfl zG zG zG (fun _ _ _ h=>h) (Or.inl ⟨zT,?_⟩) zN ?_;rotate_left
  ·(intro w hSw;(try dsimp only at hSw);go_simp<;>with_reducible rfl)
  (try simp only[Act.put,Aa,Ab,Ac])
  refine Al (i:=2) (oi:=_) (v:=?_) rfl zG zG zG (fun _ _ _ h=>h) (Or.inl ⟨zT,?_⟩) zN ?_;rotate_left
  ·(intro w hSw;(try dsimp only at hSw);go_simp<;>with_reducible rfl)
  (try simp only[Act.put,Aa,Ab,Ac])
  refine Al (i:=3) (oi:=_) (v:=?_) rfl zG zG zG (fun _ _ _ h=>h) (Or.inl ⟨zT,?_⟩) zN ?_;rotate_left
  ·(intro w hSw;(try dsimp only at hSw);go_simp<;>with_reducible rfl)
  (try simp only[Act.put,Aa,Ab,Ac])
  refine Al (i:=4) (oi:=_) (v:=?_) rfl zG zG zG (fun _ _ _ h=>h) (Or.inl ⟨zT,?_⟩) zN ?_;rotate_left
  ·(intro w hSw;(try dsimp only at hSw);go_simp<;>with_reducible rfl)
  (try simp only[Act.put,Aa,Ab,Ac])
  refine Al (i:=5) (oi:=_) (v:=?_) rfl zG zG zG (fun _ _ _ h=>h) (Or.inl ⟨zT,?_⟩) zN ?_;rotate_left
  ·(intro w hSw;(try dsimp only at hSw);go_simp<;>with_reducible rfl)
  (try simp only[Act.put,Aa,Ab,Ac])
  refine Al (i:=6) (oi:=_) (v:=undef) rfl zG zG zG (fun _ _ _ h=>h) (Or.inr ⟨zL,rfl⟩) zN ?_
  (try simp only[Act.put,Aa,Ab,Ac])
  refine Al (i:=7) (oi:=_) (v:=undef) rfl zG zG zG (fun _ _ _ h=>h) (Or.inr ⟨zL,rfl⟩) zN ?_
  (try simp only[Act.put,Aa,Ab,Ac])
  refine Al (i:=8) (oi:=_) (v:=undef) rfl zG zG zG (fun _ _ _ h=>h) (Or.inr ⟨zL,rfl⟩) zN ?_
  (try simp only[Act.put,Aa,Ab,Ac])
  refine Al (i:=9) (oi:=_) (v:=undef) rfl zG zG zG (fun _ _ _ h=>h) (Or.inr ⟨zL,rfl⟩) zN ?_
  (try simp only[Act.put,Aa,Ab,Ac])
  refine Al (i:=10) (oi:=_) (v:=undef) rfl zG zG zG (fun _ _ _ h=>h) (Or.inr ⟨zL,rfl⟩) zN ?_
  (try simp only[Act.put,Aa,Ab,Ac])
  refine Al (i:=11) (oi:=_) (v:=?_) rfl zG zG zG (fun _ _ _ h=>h) (Or.inl ⟨zT,?_⟩) zN ?_;rotate_left
  ·(intro w hSw;(try dsimp only at hSw);go_simp<;>with_reducible rfl)
  (try simp only[Act.put,Aa,Ab,Ac])
  (try simp only[AE,Az,AA,Act.put,Aa,Ab,Ac])
  refine AF (rs:=[12]) zG zP ?_;refine Ax (o:=_) rfl (fun K hK=> ?_) AllReadyH.nil
  (go_simp;go_at_call 186;refine (HC.out _).mono ?_;rintro e1 w8 ⟨rfl,hst8⟩;have HS8:=hid hst8;have n1:=(hst8.2.cell (p:=⟨w.heap.size,0,none⟩) (by exact l1) Z2).trans p2;have n2:=(hst8.2.cell (p:=⟨M,5,none⟩) (by exact l3) zCa).trans m2;have n3:=(hst8.2.cell (p:=⟨w.heap.size+1,0,none⟩) (by exact l2) Z2).trans k2;clear hst8;(try dsimp only))
  refine hK.out _ _ ?_ (fun hHeld=> ?_)
  ·((try dsimp only);first | (refine⟨?_,?_,?_⟩<;>(first | assumption | (go_keep;done))) | (refine⟨?_,?_⟩<;>(first | assumption | (go_keep;done))) | assumption | (go_keep;done))
  clear hK K
  (try simp only[Act.put,Aa,Ab,Ac])
  (try simp only[AE,Az,AA,Act.put,Aa,Ab,Ac])
  refine Bp zL ?_ _;go_wp2_with fail;first | go_end0 | refine Af (Av rfl _ _ _) rfl ?_
  refine⟨rfl,fun e=> ?_⟩;subst e;have hI3:=HI2.out.step HUU.out (AB.Qj HI2.out.rd HS8.out);rw[←HFF.out,Ak (fun e=>by have:=e.1;omega)];exact hI3
theorem L9{blk:Rs→Rs × List UInt8 × Bool}(hU:BJ w g B a fn caps blk K X)(hB:B.length≤1000000000)(h:CA w g B a K X q M lo k m v1 v2 v3 v4 s W)(p:Int):
  Calls Tryz.prog 189 #[.int .i64 p,.pointer (some ⟨w.heap.size,0,none⟩),.pointer (some ⟨M,0,none⟩)] W fun r W'=>r=.returned (.tuple #[])∧∃v1',CA w g B a K X q M lo k {m with streams:=(s.IC B).2} v1' v2 v3 v4 (s.IC B).1 W':=by
 have p0:W.cell? ⟨w.heap.size,0,none⟩=some (.pointer (some ⟨g,0,none⟩)):=h.pa.cell 0;have HI:=hid h;have HUU:=hid hU;have hwz:=h.low;have hrd2:=h.rd.later (show Below W.heap.size W W.drew from (Below.refl _ _).drew);have HR:=hid (DR W.drew hrd2 zD 16 zD);have hnm:=Rs.FW (B:=B) (s:=s) (m:=16);unfold Rs.IC;generalize s.int B 16=I at*;obtain⟨s1,n⟩:=I;dsimp only at*;have HZ:=hid (fun (V:World) (hV:AY V g B a s1)=>NI V hV hB n zD);generalize Rs.CL B n s1 []=R at*;obtain⟨s2,L⟩:=R;dsimp only at*;have l1:=h.pa.lt;clear h hU hrd2;go_enter Tryz.func189,Tryz.ntmps189;go_wp2_with fail;refine Dk (fun w'=>w'.cell? ⟨w.heap.size,0,none⟩=some (.pointer (some ⟨g,0,none⟩))) _ zL rfl zL p0 (fun hHeld=> ?_);simp only[Cn,Gq];refine Al (i:=0) (oi:=_) (v:=?_) rfl zG zG zG (fun _ _ _ h=>h) (Or.inl ⟨zT,?_⟩) zN ?_;rotate_left
 ·(intro w hSw;(try dsimp only at hSw);go_simp<;>with_reducible rfl)
 (try simp only[Act.put,Aa,Ab,Ac])
 refine Al (i:=1) (oi:=_) (v:=?_) rfl zG zG zG (fun _ _ _ h=>h) (Or.inl ⟨zT,?_⟩) zN ?_;rotate_left
 ·(intro w hSw;(try dsimp only at hSw);go_simp<;>with_reducible rfl)
 (try simp only[Act.put,Aa,Ab,Ac])
 refine AF (rs:=[2]) zG zP ?_;refine Ax (o:=_) rfl (fun K hK=> ?_) AllReadyH.nil
 (go_simp;go_at_call 185;refine HR.out.mono ?_;rintro e1 w7 ⟨rfl,hst7⟩;have HS7:=hid (AB.Qj HI.out.rd hst7);have n1:=(HS7.out.2.cell (p:=⟨w.heap.size,0,none⟩) (by exact l1) Z2).trans p0;clear hst7;(try dsimp only))
 refine hK.out _ _ ?_ (fun hHeld=> ?_)
 ·((try dsimp only);first | (refine⟨?_,?_,?_⟩<;>(first | assumption | (go_keep;done))) | (refine⟨?_,?_⟩<;>(first | assumption | (go_keep;done))) | assumption | (go_keep;done))
 clear hK K
 (try simp only[Act.put,Aa,Ab,Ac])
 refine AF (rs:=[3]) zG zP ?_;refine Ax (o:=_) rfl (fun K hK=> ?_) AllReadyH.nil
 (go_simp;go_at_call 190;refine (HZ.out w7 HS7.out.1).mono ?_;rintro e1 w8 ⟨v8,rfl,hv8,hst8⟩;obtain⟨a8,c8,hfv,_,_⟩:=At hv8;simp only[Ai,As] at hfv;subst hfv;have HI8:=hid ((HI.out.step HUU.out HS7.out).step HUU.out hst8);have HV8:=hid (AV.mono hv8 fun b hb=>(⟨by have:=HS7.out.2.size;have:=hb.1;omega,hb.2⟩:lo≤b∧b<w8.heap.size));have n2:w8.cell? ⟨w.heap.size,0,none⟩=some (.pointer (some ⟨g,0,none⟩)):=HI8.out.pa.cell 0;have f6:=FZ HI8.out.pm 6;obtain⟨y0,y1,y2,y3,y4,y5,y6,y7,y8,y9,y10,y11,y12,y13,l8⟩:=AJ HI8.out.pm;clear hst8 hv8;(try dsimp only))
 refine hK.out _ _ ?_ (fun hHeld=> ?_)
 ·((try dsimp only);first | (refine⟨?_,?_,?_⟩<;>(first | assumption | (go_keep;done))) | (refine⟨?_,?_⟩<;>(first | assumption | (go_keep;done))) | assumption | (go_keep;done))
 clear hK K
 (try simp only[Act.put,Aa,Ab,Ac])
 refine Al (i:=4) (oi:=_) (v:=?_) rfl zG zG zG (fun _ _ _ h=>h) (Or.inl ⟨zT,?_⟩) zN ?_;rotate_left
 ·(intro w hSw;(try dsimp only at hSw);go_simp<;>with_reducible rfl)
 (try simp only[Act.put,Aa,Ab,Ac])
 refine Al (i:=5) (oi:=_) (v:=?_) rfl zG zG zG (fun _ _ _ h=>h) (Or.inl ⟨zT,?_⟩) zN ?_;rotate_left
 ·(intro w hSw;(try dsimp only at hSw);go_simp<;>with_reducible rfl)
 (try simp only[Act.put,Aa,Ab,Ac])
 refine Bp zL ?_ _;show wpList _ _ _ _ _ _
 go_wp2_with fail;first | go_end0 | refine Af (Av rfl _ _ _) rfl ?_
 exact⟨rfl,_,HI8.out.Fw HUU.out 6 _ zJ HV8.out HI8.out.ln HI8.out.da HI8.out.sp⟩
theorem OT{blk:Rs→Rs × List UInt8 × Bool}(hU:BJ w g B a fn caps blk K X)(hB:B.length≤1000000000)(h:CA w g B a K X q M lo k m v1 v2 v3 v4 s W)(p:Int)(hpos:0≤m.pos∧m.pos≤18446744073709551615):
  Calls Tryz.prog 191 #[.int .i64 p,.pointer (some ⟨w.heap.size,0,none⟩),.pointer (some ⟨M,0,none⟩)] W fun r W'=>r=.returned (.tuple #[])∧∃v2',CA w g B a K X q M lo k {m with links:=(s.links B m.pos).2} v1 v2' v3 v4 (s.links B m.pos).1 W':=by
 have p0:W.cell? ⟨w.heap.size,0,none⟩=some (.pointer (some ⟨g,0,none⟩)):=h.pa.cell 0;have HI:=hid h;have HUU:=hid hU;have hwz:=h.low;have HR:=hid (Sa W h.rd hB m.pos hpos);have m3:W.cell? ⟨M,3,none⟩=some (.int .u64 m.pos):=h.pm.cell 3;generalize s.links B m.pos=I at*;obtain⟨s1,L⟩:=I;dsimp only at*;clear h hU;go_enter Tryz.func191,Tryz.ntmps191;go_wp2_with fail;refine HR.out.mono ?_;rintro r w1 ⟨v,rfl,hv,hst⟩;have hv':=Jm hv;obtain⟨a8,c8,hfv,_,_⟩:=At hv';simp only[Ai,As] at hfv;subst hfv;have HI1:=hid (HI.out.step HUU.out hst);have HV:=hid (B6.mono hv' fun b hb=>(⟨ZS,hb.2⟩:lo≤b∧b<w1.heap.size));have f7:=FZ HI1.out.pm 7;obtain⟨y0,y1,y2,y3,y4,y5,y6,y7,y8,y9,y10,y11,y12,y13,lm7⟩:=AJ HI1.out.pm;clear hst hv hv';go_wp2_with fail;first | go_end0 | refine Af (Av rfl _ _ _) rfl ?_
 exact⟨rfl,_,HI1.out.Fw HUU.out 7 _ zJ HI1.out.st HV.out HI1.out.da HI1.out.sp⟩
theorem QA{w:World}{g:Nat}{B:List UInt8}{a:Option Addr}{K:Nat→Prop}{X:World→Bool→Prop}{q:Bool}{M lo:Nat}{k:Int}{m:Msg}{v1 v2 v3 v4:Value}{s:Rs}{blk:Rs→Rs × List UInt8 × Bool}(hU:BJ w g B a fn caps blk K X)(hB:B.length≤1000000000)(h:CA w g B a K X q M lo k m v1 v2 v3 v4 s W)(p:Int):
  Calls Tryz.prog 193 #[.int .i64 p,.pointer (some ⟨w.heap.size,0,none⟩),.pointer (some ⟨M,0,none⟩)] W fun r W'=>r=.returned (.tuple #[])∧CA w g B a K X q M lo k {m with sea:=(s.seal_ B).2} v1 v2 v3 v4 (s.seal_ B).1 W':=by
 have p0:W.cell? ⟨w.heap.size,0,none⟩=some (.pointer (some ⟨g,0,none⟩)):=h.pa.cell 0;have HI:=hid h;have HUU:=hid hU;have HR:=hid (RD W h.rd hB);generalize s.seal_ B=I at*;obtain⟨s1,e0,e1,e2⟩:=I;dsimp only at*;unfold Mj at HR;clear h hU;go_enter Tryz.func193,Tryz.ntmps193;go_wp2_with fail;refine HR.out.mono ?_;rintro r w1 ⟨rfl,hst⟩;have HI1:=hid (HI.out.step HUU.out hst);have f9:=FZ HI1.out.pm 9;have f10:=FZ HI1.out.pm 10;have f11:=FZ HI1.out.pm 11;obtain⟨y0,y1,y2,y3,y4,y5,y6,y7,y8,y9,y10,y11,y12,y13,l1⟩:=AJ HI1.out.pm;have HI2:=hid (HI1.out.Fw HUU.out 9 (.int .u64 e0) (m':={m with sea:=⟨e0,m.sea.node,m.sea.tail⟩}) (v1':=v1) (v2':=v2) (v3':=v3) (v4':=v4) ZB HI1.out.st HI1.out.ln HI1.out.da HI1.out.sp);have HI3:=hid (HI2.out.Fw HUU.out 10 (.int .u64 e1) (m':={m with sea:=⟨e0,e1,m.sea.tail⟩}) (v1':=v1) (v2':=v2) (v3':=v3) (v4':=v4) ZB HI2.out.st HI2.out.ln HI2.out.da HI2.out.sp);have HI4:=hid (HI3.out.Fw HUU.out 11 (.int .u64 e2) (m':={m with sea:=⟨e0,e1,e2⟩}) (v1':=v1) (v2':=v2) (v3':=v3) (v4':=v4) ZB HI3.out.st HI3.out.ln HI3.out.da HI3.out.sp);clear hst;go_wp2_with fail;first | go_end0 | refine Af (Av rfl _ _ _) rfl ?_
 exact⟨rfl,HI4.out⟩
theorem QB{blk:Rs→Rs × List UInt8 × Bool}(hU:BJ w g B a fn caps blk K X)(hB:B.length≤1000000000)(h:CA w g B a K X q M lo k m v1 v2 v3 v4 s W)(p:Int):
  Calls Tryz.prog 195 #[.int .i64 p,.pointer (some ⟨w.heap.size,0,none⟩),.pointer (some ⟨M,0,none⟩)] W fun r W'=>r=.returned (.tuple #[])∧∃v4',CA w g B a K X q M lo k {m with proj:=(s.Du B).2} v1 v2 v3 v4' (s.Du B).1 W':=by
 have p0:W.cell? ⟨w.heap.size,0,none⟩=some (.pointer (some ⟨g,0,none⟩)):=h.pa.cell 0;have HI:=hid h;have HUU:=hid hU;have hwz:=h.low;have HR:=hid (RT W h.rd hB);generalize s.Du B=I at*;obtain⟨s1,e0,L⟩:=I;dsimp only at*;clear h hU;go_enter Tryz.func195,Tryz.ntmps195;go_wp2_with fail;refine HR.out.mono ?_;rintro r w1 ⟨v,rfl,hv,hst⟩;obtain⟨a8,c8,hfv,_,_⟩:=At hv;simp only[Ai,As] at hfv;subst hfv;have HI1:=hid (HI.out.step HUU.out hst);have HV:=hid (A3.mono hv fun b hb=>(⟨ZS,hb.2⟩:lo≤b∧b<w1.heap.size));have f12:=FZ HI1.out.pm 12;have f13:=FZ HI1.out.pm 13;obtain⟨y0,y1,y2,y3,y4,y5,y6,y7,y8,y9,y10,y11,y12,y13,l1⟩:=AJ HI1.out.pm;have HI2:=hid (HI1.out.Fw HUU.out 12 (.int .u64 e0) (m':={m with proj:=⟨e0,m.proj.stripes⟩}) (v1':=v1) (v2':=v2) (v3':=v3) (v4':=v4) ZB HI1.out.st HI1.out.ln HI1.out.da HI1.out.sp);have HV2:=hid (show A3.r (fun b=>lo≤b∧b<(w1.setCell ⟨M,12,none⟩ (.int .u64 e0)).heap.size) (w1.setCell ⟨M,12,none⟩ (.int .u64 e0)) [.slice a8 L.length c8] L from A3.mono (A3.keep HV.out fun b hb=>Ap _ _ _ _ (by have:=hb.1;have:=HI1.out.lm;dsimp only;omega)) fun b hb=>⟨hb.1,by rw[size_set];exact hb.2⟩);clear hst hv;go_wp2_with fail;first | go_end0 | refine Af (Av rfl _ _ _) rfl ?_
 exact⟨rfl,_,HI2.out.Fw HUU.out 13 _ zJ HI2.out.st HI2.out.ln HI2.out.da HV2.out⟩
theorem Rs.LY{pos:Int}(h:s.k≠0):s.links B pos=(s,[]):=by
 unfold Rs.links;rw[Rs.Hy h];rfl
theorem Rs.UR(h:(s.seal_ B).1.k=0):s.k=0:=
 CW fun hh=>hh (by rw[Rs.Kb hh] at h;exact h)
theorem Rs.UW(h:(s.Du B).1.k=0):s.k=0:=
 CW fun hh=>hh (by rw[Rs.Kk hh] at h;exact h)
end Go.Proofs.YtlbffbkbkajciaaGreat
