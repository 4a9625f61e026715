/- Mini: Needed by segmentOnce_walk, part 10: texts put together by shake.py; no condition. -/
import Derived.Test.YtfddhafbhceoaaaGreatWC2
import Derived.Test.YtfddhafbhceoaaaGreatWC9
import Derived.Test.YtfddhafbhceoaaaGreatWC8
import Derived.Deep.Cut
import Derived.Deep.RegionHeld3
import Derived.Test.YtfddhafbhceoaaaGreatWC3
import Derived.Test.YtfddhafbhceoaaaGreatWC6
import Derived.Test.YtfddhafbhceoaaaGreatWC5
import Derived.Test.YtfddhafbhceoaaaGreatWC4
import Derived.Deep.CutRange
import Derived.Scope
import Derived.Test.YtfddhafbhceoaaaGreatProg
import Derived.WalkKit
import Derived.Deep.WholeRow
import Derived.BigQuiet
import Derived.Test.YtfddhafbhceoaaaGreatWC1
import Derived.Test.YtfddhafbhceoaaaGreatWC7
import Derived.Lib.SlBytesConst
set_option linter.unusedVariables false
set_option linter.unusedSimpArgs false
set_option maxRecDepth 100000
set_option maxHeartbeats 6400000
namespace Go.Bs
variable{cs:List Value}{c i n:Nat}{S:Nat → Prop}{a:Option Addr}{w:World}
theorem zBq{p:Prop}(h:p:=by simp [results, Tryz.results85, go_sem, v0, v1, v2, lF]):p:=h
theorem zBd{p:Prop}(h:p:=by simp [results, Tryz.results117, go_sem, y0, y1, g0, g1, l1]):p:=h
theorem zA4{p:Prop}(h:p:=by intro cs hcs; obtain ⟨m, _, rfl⟩ := List.mem_map.1 hcs; rfl):p:=h
theorem zAr{p:Prop}(h:p:=by simp only [CU, d0, d1, d2, d3, d4, d5, d6, D7, JS]):p:=h
theorem zP{p:Prop}(h:p:=by repeat (first | with_reducible assumption | with_reducible refine Blk.drew ?_ | with_reducible refine Blk.far ?_ (by dsimp only; omega) _)):p:=h
abbrev Vg(h:Array Value:=by exact #[.int .u64 0,.int .i64 0,.int .i64 0,.int .u64 0,.int .u64 0,.int .i64 0,.int .i64 0]):=h
abbrev Vi(h:Array Value:=by exact #[.int .u64 f.ep,.int .i64 f.n,.int .i64 f.en,.int .u64 f.first,.int .u64 f.fin,.int .i64 f.at_,.int .i64 f.size]):=h
theorem Ak:type_of% @List.getElem_cons_zero:=@List.getElem_cons_zero
theorem Am:type_of% @List.getElem_toArray:=@List.getElem_toArray
theorem F6:type_of% @Proofs.Tryz.ntmps327:=@Proofs.Tryz.ntmps327
theorem GW:type_of% @Proofs.Tryz.func327:=@Proofs.Tryz.func327
theorem Ib:type_of% @Proofs.Tryz.ntmps325:=@Proofs.Tryz.ntmps325
theorem JR:type_of% @Proofs.Tryz.func325:=@Proofs.Tryz.func325
theorem JS:type_of% @Bool.false_and:=@Bool.false_and
end Go.Bs
namespace Go.Proofs.YtfddhafbhceoaaaGreat
open Go.RowKit Go.Bs Go.Maps
variable{m:Int}{B D J:List UInt8}{xs:List Value}{L base c c1 g n o p sz:Nat}{S:Nat → Prop}{a a1:Option Addr}{s:Rs}{e:TypeId}{v v1 v2:Value}{W W' w w1:World}
theorem Rs.take_len{n:Int}:(s.take B n).2.length≤n.toNat:=by
 unfold Rs.take;split
 ·simp;omega
 ·simp
theorem Rs.J5:(s.loose B m).2.1.length≤1048576:=by
 have h1:=Rs.EJ (B:=B) (s:=s) (m:=min m 1048576);unfold Rs.loose;split
 ·split
  ·split
   ·have:=Rs.take_len (B:=B) (s:=((s.int B (min m 1048576)).1.byte B).1) (n:=((s.int B (min m 1048576)).2:Int))
    dsimp only;omega
   ·simp
  ·split
   ·split
    ·have:=Rs.Ra (B:=B) (s:=((s.int B (min m 1048576)).1.byte B).1) (s.int B (min m 1048576)).2
     dsimp only;omega
    ·simp
   ·simp
 ·simp
theorem Mn(t:Rs):(C8 B t).2.1.length≤1048576:=by
 have:=Rs.J5 (B:=B) (s:=t) (m:=1048576);unfold C8 Rs.strict;dsimp only;split
 ·split
  ·exact this
  ·simp
 ·simp
theorem Rs.Jc{blk:Rs→Rs × List UInt8 × Bool}(h:(Rs.batch B blk s).1.k≠0):(Rs.batch B blk s).2=(EG,false):=by
 unfold Rs.batch at*;dsimp only at*;by_cases h1:(s.Bm B).1.k=0
 ·simp only[Ai h1] at h ⊢
  generalize Rs.Mq blk (Rs.Dl B (s.Bm B).2.2.2 (s.Bm B).1 ((s.Bm B).2.2.1:Int) 1048576 [])=U at*;by_cases h2:U.1.k=0
  ·simp only[Ai h2] at h ⊢
   exact absurd h2 h
  ·simp only[Ah h2]
 ·simp only[Ah h1]
theorem Px(w:World)(h:AN w g B a s)(hB:B.length≤1000000000)(hp:Blk w p 112 #[.pointer (some ⟨g,0,none⟩)]):
  Calls Tryz.prog 128 #[.pointer (some ⟨p,0,none⟩)] w fun r w'=>∃v,r=.returned v∧Ag.r (E8 w w') w' [v] (C8 B s).2.1∧Ay w g B a (C8 B s).1 w':=by
 have HB:=hid (QX w h hB 1048576 zD);have x0:w.cell? ⟨p,0,none⟩=some (.pointer (some ⟨g,0,none⟩)):=hp.cell 0;unfold C8;dsimp only;generalize Rs.strict (s.loose B 1048576)=T at*;obtain⟨s1,D⟩:=T;dsimp only at*;clear h hp;go_enter Tryz.func128,Tryz.ntmps128;go_wp2_with fail;refine HB.out.mono ?_;rintro r w1 ⟨v,rfl,hv,hst⟩;obtain⟨a1,c1,hfv,hv2,_⟩:=AJ hv;simp only[As,AF] at hfv;subst hfv;have HV:=hid hv2;have HS:=hid hst;clear hv hv2 hst;go_wp2;go_ret;exact⟨_,rfl,HV.out,HS.out⟩
theorem Kj(w:World){g p q:Nat}{B:List UInt8}{a:Option Addr}(h:AN w g B a s)(hB:B.length≤1000000000)(hp:Blk w p 112 #[.pointer (some ⟨g,0,none⟩)]){o:Bool}(hq:Blk w q 4 #[.bool o])(hne:q≠g∧p≠q∧p≠g)
 (hd:Ag.r (fun x=>x<w.heap.size∧¬(x=g∨x=q)) w [.slice a B.length B.length] B):
  Calls Tryz.prog 139 #[.pointer (some ⟨p,0,none⟩),.pointer (some ⟨q,0,none⟩)] w fun r w'=>∃v,r=.returned v∧Ag.r (E8 w w') w' [v] (DD B s).2.1∧AN w' g B a (DD B s).1∧Tch (fun x=>x=g∨x=q) w w'∧Blk w' p 112 #[.pointer (some ⟨g,0,none⟩)]∧Blk w' q 4 #[.bool (DD B s).2.2]:=by
 have HB:=hid (KN w h hB 1048576 zD);have x0:w.cell? ⟨p,0,none⟩=some (.pointer (some ⟨g,0,none⟩)):=hp.cell 0;obtain⟨n1,n2,n3⟩:=hne;have HP:=hid hp;have HQ:=hid hq;have HD:=hid hd;have lq:=hq.lt;have lp:=hp.lt;unfold DD;generalize s.loose B 1048576=T at*;obtain⟨s1,D,z⟩:=T;dsimp only at*;clear h hp hq hd;go_enter Tryz.func139,Tryz.ntmps139;go_wp2_with fail;refine HB.out.mono ?_;rintro r w1 ⟨v,rfl,hv,hst⟩;obtain⟨a1,c1,hfv,hv2,_⟩:=AJ hv;simp only[As,AF] at hfv;subst hfv;have Q1:=HQ.out.tch hst.2 zD;have P1:=HP.out.tch hst.2 zD;have q0:w1.cell? ⟨q,0,none⟩=some (.bool o):=Q1.cell 0;have q1:=Q1.free 0;have HV:=hid hv2;have HS:=hid hst;clear hv hv2 hst;go_wp2;go_ret;have hT:Tch (fun x=>x=g∨x=q) w (w1.setCell ⟨q,0,none⟩ (.bool z)):=(HS.out.2.mono fun b _ e=> .inl e).setCell (fun _=> .inr rfl) _;refine⟨_,rfl,?_,⟨Blk.far HS.out.1.blk zH _,Ag.mono (Ag.keep HD.out fun x hx=>hT.block x hx.1 hx.2) fun x hx=>⟨Ao hx.1 hT.size,fun e=>hx.2 (.inl e)⟩,HS.out.1.ok⟩,hT,Blk.far P1 zH _,Q1.set 0 _⟩;refine Ag.mono (Ag.keep HV.out fun x hx=>Aw _ _ _ _ (by have:=hx.1;dsimp only;omega)) fun x hx=>⟨hx.1,by simpa using hx.2⟩
theorem Q4(w:World)(h:AN w g B a s)(hB:B.length≤1000000000):
  Calls Tryz.prog 73 #[.pointer (some ⟨g,0,none⟩)] w fun r w'=>∃v,r=.returned (.agg #[.int .u64 (Rs.batch B (C8 B) s).2.1.epoch,.int .u64 (Rs.batch B (C8 B) s).2.1.base,v])∧Bu.r (E8 w w') w' [v] (Rs.batch B (C8 B) s).2.1.entries∧Ay w g B a (Rs.batch B (C8 B) s).1 w':=by
 have hlt:=h.blk.lt;have HIN:=hid (Cf.refl h);clear h;generalize hZ:Rs.batch B (C8 B) s=Z;have HZ:=hid hZ;clear hZ;obtain⟨s1,b,q⟩:=Z;obtain⟨e,p,E⟩:=b;dsimp only at*;go_enter Tryz.func73,Tryz.ntmps73;go_wp2_with fail;have hbw:Below w.heap.size w ((w.alloc (.cells #[.pointer (some ⟨g,0,none⟩)] 112)).alloc (.cells #[.int .u64 0,.int .u64 0,.slice none 0 0] 48)):=zA;have R0:Blk ((w.alloc (.cells #[.pointer (some ⟨g,0,none⟩)] 112)).alloc (.cells #[.int .u64 0,.int .u64 0,.slice none 0 0] 48)) (w.heap.size+1) 48 #[.int .u64 0,.int .u64 0,.slice none 0 0]:=zC;have P0:Blk ((w.alloc (.cells #[.pointer (some ⟨g,0,none⟩)] 112)).alloc (.cells #[.int .u64 0,.int .u64 0,.slice none 0 0] 48)) w.heap.size 112 #[.pointer (some ⟨g,0,none⟩)]:=zC;have HIN0:=hid (HIN.out.row hbw);have hsz:((w.alloc (.cells #[.pointer (some ⟨g,0,none⟩)] 112)).alloc (.cells #[.int .u64 0,.int .u64 0,.slice none 0 0] 48)).heap.size=w.heap.size+2:=zQ;have HBW:=hid hbw;clear hbw;generalize ((w.alloc (.cells #[.pointer (some ⟨g,0,none⟩)] 112)).alloc (.cells #[.int .u64 0,.int .u64 0,.slice none 0 0] 48))=W at*;have hU:JP W g B a 128 #[.pointer (some ⟨w.heap.size,0,none⟩)] (C8 B) (·=g) (fun V _=>Blk V w.heap.size 112 #[.pointer (some ⟨g,0,none⟩)]):={
  lt:=fun b e=>by omega
  own:=rfl
  st:=fun V V' q hv hs ht=>Blk.tch hv ht zD
  call:=fun V t hV hX hs ht=>(Px V hV hB hX).mono fun r V' ⟨v,h1,h2,h3⟩=>⟨v,h1,h2,h3.1,h3.2,Blk.tch hX h3.2 zD⟩
  size:=Mn
  dat:=HIN0.out.rd.dat
  ent:=fun xs V=>by go_simp}
 have hC:=H5 W HIN0.out.rd hB _ _ _ _ _ hU P0;rw[HZ.out] at hC;have HC:=hid hC;clear hU P0 hC;refine HC.out.mono ?_;rintro r w1 ⟨v,q1,rfl,hv,hrd,ht,_,_⟩;obtain⟨a1,c1,hfv,_,_⟩:=AJ (Bv hv);simp only[As,AF] at hfv;subst hfv;have R1:=R0.tch ht zD;have hs1:=ht.size;have HIN1:=hid (HIN0.out.step ⟨hrd,ht⟩);have HV:=hid hv;obtain⟨x0,x1,x2,f0,f1,f2,l1⟩:=CI R1;clear hv hrd ht;go_wp2;obtain⟨v0,v1,v2,_,_,_,lF⟩:=CI (((R1.set 0 (.int .u64 e)).set 1 (.int .u64 p)).set 2 (.slice a1 E.length c1));have hbF:Below w.heap.size w1 (((w1.setCell ⟨w.heap.size+1,0,none⟩ (.int .u64 e)).setCell ⟨w.heap.size+1,1,none⟩ (.int .u64 p)).setCell ⟨w.heap.size+1,2,none⟩ (.slice a1 E.length c1)):=zA;refine An (v:=.agg #[.int .u64 e,.int .u64 p,.slice a1 E.length c1]) (by simp[results,Tryz.results73,go_sem,v0,v1,v2,lF]) rfl ⟨_,rfl,?_,(HIN1.out.row hbF).to⟩;refine Bu.mono (Bu.keep HV.out fun b hb=> ?_) fun b hb=>⟨ZQ,by have:=hb.2;simp;omega⟩;have:=hb.1;repeat rw[Aw _ _ _ _ zH]
theorem KY(w:World)(h:AN w g B a s)(hB:B.length≤1000000000):
  Calls Tryz.prog 85 #[.pointer (some ⟨g,0,none⟩)] w fun r w'=>∃v,r=.returned (.tuple #[.agg #[.int .u64 (Rs.batch B (DD B) s).2.1.epoch,.int .u64 (Rs.batch B (DD B) s).2.1.base,v],.bool (Rs.batch B (DD B) s).2.2])∧Bu.r (E8 w w') w' [v] (Rs.batch B (DD B) s).2.1.entries∧Ay w g B a (Rs.batch B (DD B) s).1 w':=by
 have hlt:=h.blk.lt;have HIN:=hid (Cf.refl h);clear h;have hbad:=Rs.Jc (B:=B) (blk:=DD B) (s:=s);generalize hZ:Rs.batch B (DD B) s=Z at*;have HZ:=hid hZ;clear hZ;obtain⟨s1,b,q⟩:=Z;obtain⟨e,p,E⟩:=b;dsimp only at*;have hq0:s1.k≠0→q=false:=fun hk=>Bc Prod.snd (hbad hk);clear hbad;go_enter Tryz.func85,Tryz.ntmps85;go_wp2_with fail;have hbw:Below w.heap.size w (((w.alloc (.cells #[.pointer (some ⟨g,0,none⟩)] 112)).alloc (.cells #[.int .u64 0,.int .u64 0,.slice none 0 0] 48)).alloc (.cells #[.bool false] 4)):=zA;have R0:Blk (((w.alloc (.cells #[.pointer (some ⟨g,0,none⟩)] 112)).alloc (.cells #[.int .u64 0,.int .u64 0,.slice none 0 0] 48)).alloc (.cells #[.bool false] 4)) (w.heap.size+1) 48 #[.int .u64 0,.int .u64 0,.slice none 0 0]:=zC;have P0:Blk (((w.alloc (.cells #[.pointer (some ⟨g,0,none⟩)] 112)).alloc (.cells #[.int .u64 0,.int .u64 0,.slice none 0 0] 48)).alloc (.cells #[.bool false] 4)) w.heap.size 112 #[.pointer (some ⟨g,0,none⟩)]:=zC;have Q0:Blk (((w.alloc (.cells #[.pointer (some ⟨g,0,none⟩)] 112)).alloc (.cells #[.int .u64 0,.int .u64 0,.slice none 0 0] 48)).alloc (.cells #[.bool false] 4)) (w.heap.size+1+1) 4 #[.bool false]:=zC;have HIN0:=hid (HIN.out.row hbw);have hsz:((((w.alloc (.cells #[.pointer (some ⟨g,0,none⟩)] 112)).alloc (.cells #[.int .u64 0,.int .u64 0,.slice none 0 0] 48)).alloc (.cells #[.bool false] 4))).heap.size=w.heap.size+3:=zQ;have HBW:=hid hbw;clear hbw;generalize (((w.alloc (.cells #[.pointer (some ⟨g,0,none⟩)] 112)).alloc (.cells #[.int .u64 0,.int .u64 0,.slice none 0 0] 48)).alloc (.cells #[.bool false] 4))=W at*;have hU:JP W g B a 139 #[.pointer (some ⟨w.heap.size,0,none⟩),.pointer (some ⟨w.heap.size+1+1,0,none⟩)] (DD B) (fun x=>x=g∨x=w.heap.size+1+1) (fun V q=>Blk V w.heap.size 112 #[.pointer (some ⟨g,0,none⟩)]∧Blk V (w.heap.size+1+1) 4 #[.bool q]):=by
  have hdat:Ag.r (fun x=>x<W.heap.size∧¬(x=g∨x=w.heap.size+1+1)) W [.slice a B.length B.length] B:=Ag.mono HIN0.out.dat fun x hx=>⟨zD,fun e=>e.elim (fun e=>hx.2 e) fun e=>zD⟩;exact {
   lt:=fun b e=>by omega
   own:=.inl rfl
   st:=fun V V' q hv hs ht=>⟨Blk.tch hv.1 ht zD,Blk.tch hv.2 ht zD⟩
   call:=fun V t hV hX hs ht=>(Kj V hV hB hX.1 hX.2 zD (Ag.mono (Ag.keep hdat fun x hx=>ht.block x hx.1 hx.2) fun x hx=>⟨zD,hx.2⟩)).mono fun r V' ⟨v,h1,h2,h3,h4,h5,h6⟩=>⟨v,h1,h2,h3,h4,h5,h6⟩
   size:=fun t=>Rs.J5
   dat:=hdat
   ent:=fun xs V=>by go_simp}
 have hC:=H5 W HIN0.out.rd hB _ _ _ _ _ hU ⟨P0,Q0⟩;rw[HZ.out] at hC;have HC:=hid hC;clear hU P0 Q0 hC;refine HC.out.mono ?_;rintro r w1 ⟨v,q1,rfl,hv,hrd,ht,⟨P1,Q1⟩,hq1⟩;dsimp only at hrd hq1 hv;obtain⟨a1,c1,hfv,_,_⟩:=AJ (Bv hv);simp only[As,AF] at hfv;subst hfv;have R1:=R0.tch ht zD;have hs1:=ht.size;have HV:=hid hv;have HRD:=hid hrd;have hb01:Below w.heap.size W w1∨True:=.inr trivial;have HT:=hid (HBW.out);have hTw:Tch (·=g) w w1:=(Tch.Bz (F:=(·=g)) (HBW.out)).trans ht fun b hb e=>by omega
 have HTW:=hid hTw;have lr:=R1.lt;have lp:=P1.lt;have lq:=Q1.lt;clear hv hrd ht hb01 hTw HT;have SK:=hid (fun (w':World) (h0:Blk w' w1.heap.size 48 #[.int .u64 e,.int .u64 p,.slice a1 E.length c1]) (h2:Blk w' w.heap.size 112 #[.pointer (some ⟨g,0,none⟩)]) (h3:Blk w' (w.heap.size+1+1) 4 #[.bool q1])=>(⟨h0.cell 0,h0.cell 1,h0.cell 2,h2.cell 0,h3.cell 0⟩:w'.cell? ⟨w1.heap.size,0,none⟩=some (.int .u64 e)∧w'.cell? ⟨w1.heap.size,1,none⟩=some (.int .u64 p)∧w'.cell? ⟨w1.heap.size,2,none⟩=some (.slice a1 E.length c1)∧w'.cell? ⟨w.heap.size,0,none⟩=some (.pointer (some ⟨g,0,none⟩))∧w'.cell? ⟨w.heap.size+1+1,0,none⟩=some (.bool q1)));have E2:Blk (w1.alloc (.cells #[.int .u64 e,.int .u64 p,.slice a1 E.length c1] 48)) w1.heap.size 48 #[.int .u64 e,.int .u64 p,.slice a1 E.length c1]:=Blk.newAt _ _ _ rfl;have P2:Blk (w1.alloc (.cells #[.int .u64 e,.int .u64 p,.slice a1 E.length c1] 48)) w.heap.size 112 #[.pointer (some ⟨g,0,none⟩)]:=P1.alloc _;have Q2:Blk (w1.alloc (.cells #[.int .u64 e,.int .u64 p,.slice a1 E.length c1] 48)) (w.heap.size+1+1) 4 #[.bool q1]:=Q1.alloc _;have R2:Blk (w1.alloc (.cells #[.int .u64 e,.int .u64 p,.slice a1 E.length c1] 48)) (w.heap.size+1) 48 #[.int .u64 0,.int .u64 0,.slice none 0 0]:=R1.alloc _;have hg1:g<w1.heap.size:=zD;have HRD2:=hid (HRD.out.later (show Below w1.heap.size w1 (w1.alloc (.cells #[.int .u64 e,.int .u64 p,.slice a1 E.length c1] 48)) from zA));have HS2:=hid (SK.out (w1.alloc (.cells #[.int .u64 e,.int .u64 p,.slice a1 E.length c1] 48)) E2 P2 Q2);have HB12:=hid (show Below w1.heap.size w1 (w1.alloc (.cells #[.int .u64 e,.int .u64 p,.slice a1 E.length c1] 48)) from zA);have hz2:((w1.alloc (.cells #[.int .u64 e,.int .u64 p,.slice a1 E.length c1] 48))).heap.size=w1.heap.size+1:=zQ;clear P1 Q1 R1 R0;go_wp2_with fail;generalize (w1.alloc (.cells #[.int .u64 e,.int .u64 p,.slice a1 E.length c1] 48))=w2 at*;cases q1
 ·have hqf:q=false:=by
   by_cases hk:s1.k=0
   ·exact (hq1 hk).symm
   ·exact hq0 hk
  subst hqf;clear hq1 hq0;obtain⟨r0,r1,r2,t0,t1,t2,rl⟩:=CI R2;refine wp_region_held_drew (S:=fun w'=>w'.cell? ⟨w1.heap.size,0,none⟩=some (.int .u64 e)∧w'.cell? ⟨w1.heap.size,1,none⟩=some (.int .u64 p)∧w'.cell? ⟨w1.heap.size,2,none⟩=some (.slice a1 E.length c1)∧w'.cell? ⟨w.heap.size,0,none⟩=some (.pointer (some ⟨g,0,none⟩))∧w'.cell? ⟨w.heap.size+1+1,0,none⟩=some (.bool false)) zJ HS2.out (fun hHeld=> ?_);refine Av (i:=0) (oi:=_) (v:=?_) rfl zF zF zF (fun _ _ _ h=>h) (Or.inl ⟨zU,?_⟩) zM ?_;rotate_left
  ·(intro w hSw;(try dsimp only at hSw);go_simp<;>with_reducible rfl)
  (try simp only[Act.put,Aa,Ab,Ac])
  refine Av (i:=1) (oi:=_) (v:=?_) rfl zF zF zF (fun _ _ _ h=>h) (Or.inl ⟨zU,?_⟩) zM ?_;rotate_left
  ·(intro w hSw;(try dsimp only at hSw);go_simp<;>with_reducible rfl)
  (try simp only[Act.put,Aa,Ab,Ac])
  refine Av (i:=2) (oi:=_) (v:=?_) rfl zF zF zF (fun _ _ _ h=>h) (Or.inl ⟨zU,?_⟩) zM ?_;rotate_left
  ·(intro w hSw;(try dsimp only at hSw);go_simp<;>with_reducible rfl)
  (try simp only[Act.put,Aa,Ab,Ac])
  refine Av (i:=3) (oi:=_) (v:=undef) rfl zF zF zF (fun _ _ _ h=>h) (Or.inr ⟨zJ,rfl⟩) zM ?_
  (try simp only[Act.put,Aa,Ab,Ac])
  refine Av (i:=4) (oi:=_) (v:=undef) rfl zF zF zF (fun _ _ _ h=>h) (Or.inr ⟨zJ,rfl⟩) zM ?_
  (try simp only[Act.put,Aa,Ab,Ac])
  refine Av (i:=5) (oi:=_) (v:=?_) rfl zF zF zF (fun _ _ _ h=>h) (Or.inl ⟨zJ,?_⟩) zM ?_;rotate_left
  ·(intro w hSw;(try dsimp only at hSw);go_simp<;>with_reducible rfl)
  (try simp only[Act.put,Aa,Ab,Ac])
  refine Bq (rs:=[6]) zF zQ ?_;refine Bb (o:=_) rfl (fun K hK=> ?_) AllReadyH.nil;go_simp
  refine hK.out _ _ ?_ (fun hHeld=> ?_)
  ·exact SK.out _ zP zP zP
  clear hK K
  (try simp only[Act.put,Aa,Ab,Ac])
  refine Av (i:=7) (oi:=_) (v:=?_) rfl zF zF zF (fun _ _ _ h=>h) (Or.inl ⟨zU,?_⟩) zM ?_;rotate_left
  ·(intro w hSw;(try dsimp only at hSw);go_simp<;>with_reducible rfl)
  (try simp only[Act.put,Aa,Ab,Ac])
  simp only[Am,Ak,Aj,Act.put,Aa,Ab,Ac];refine GC zJ ?_ _;go_wp2;obtain⟨v0,v1,v2,_,_,_,lF⟩:=CI (((R2.set 0 (.int .u64 e)).set 1 (.int .u64 p)).set 2 (.slice a1 E.length c1)).drew;have hbF:Below w.heap.size w1 (((w2.setCell ⟨w.heap.size+1,0,none⟩ (.int .u64 e)).setCell ⟨w.heap.size+1,1,none⟩ (.int .u64 p)).setCell ⟨w.heap.size+1,2,none⟩ (.slice a1 E.length c1)).drew:=by
   have hb17':=HB12.out.mono (show w.heap.size≤w1.heap.size by omega);exact (((hb17'.setCell zH _).setCell zH _).setCell zH _).drew
  have hdF:=hbF.size;refine An (v:=.tuple #[.agg #[.int .u64 e,.int .u64 p,.slice a1 E.length c1],.bool false]) zBq rfl ⟨_,rfl,?_,⟨HRD.out.blk.below hbF hlt,Ag.mono (Ag.keep HIN0.out.dat fun x hx=>(hbF.block x hx.1).trans ((HTW.out.block x hx.1 hx.2).trans (HBW.out.block x hx.1).symm)) fun x hx=>⟨zD,hx.2⟩,HRD.out.ok⟩,HTW.out.trans (Tch.Db hbF) fun b hb hle=>zD⟩;refine Bu.mono (Bu.keep HV.out fun b hb=> ?_) fun b hb=>⟨ZQ,by have:=hb.2;omega⟩;have:=hb.1;have:=hb.2;have e1:∀V:World,V.drew.heap[b]? =V.heap[b]? :=fun V=>rfl
  (try rw[e1])
  (repeat rw[Aw _ _ _ _ zH])
  exact HB12.out.block b zD
 ·have hqf:decide (s1.k=0)=q:=by
   by_cases hk:s1.k=0
   ·rw[Ad hk];exact hq1 hk
   ·rw[Ae hk];exact (hq0 hk).symm
  have HG:=hid (fun (V:World) (hV:AN V g B a s1)=>(by have:=AK V hV;rw[hqf] at this;exact this:Calls Tryz.prog 112 #[.pointer (some ⟨g,0,none⟩)] V fun r w'=>r=.returned (.bool q)∧Below V.heap.size V w'));have HRD3:=hid (HRD2.out.later (show Below _ w2 w2.drew from (Below.refl _ _).drew));clear hq1 hq0 hqf;refine wp_region_held_drew (S:=fun w'=>w'.cell? ⟨w1.heap.size,0,none⟩=some (.int .u64 e)∧w'.cell? ⟨w1.heap.size,1,none⟩=some (.int .u64 p)∧w'.cell? ⟨w1.heap.size,2,none⟩=some (.slice a1 E.length c1)∧w'.cell? ⟨w.heap.size,0,none⟩=some (.pointer (some ⟨g,0,none⟩))∧w'.cell? ⟨w.heap.size+1+1,0,none⟩=some (.bool true)) zJ HS2.out (fun hHeld=> ?_);refine Av (i:=0) (oi:=_) (v:=?_) rfl zF zF zF (fun _ _ _ h=>h) (Or.inl ⟨zU,?_⟩) zM ?_;rotate_left
  ·(intro w hSw;(try dsimp only at hSw);go_simp<;>with_reducible rfl)
  (try simp only[Act.put,Aa,Ab,Ac])
  refine Av (i:=1) (oi:=_) (v:=?_) rfl zF zF zF (fun _ _ _ h=>h) (Or.inl ⟨zU,?_⟩) zM ?_;rotate_left
  ·(intro w hSw;(try dsimp only at hSw);go_simp<;>with_reducible rfl)
  (try simp only[Act.put,Aa,Ab,Ac])
  refine Av (i:=2) (oi:=_) (v:=?_) rfl zF zF zF (fun _ _ _ h=>h) (Or.inl ⟨zU,?_⟩) zM ?_;rotate_left
  ·(intro w hSw;(try dsimp only at hSw);go_simp<;>with_reducible rfl)
  (try simp only[Act.put,Aa,Ab,Ac])
  refine Av (i:=3) (oi:=_) (v:=?_) rfl zF zF zF (fun _ _ _ h=>h) (Or.inl ⟨zJ,?_⟩) zM ?_;rotate_left
  ·(intro w hSw;(try dsimp only at hSw);go_simp<;>with_reducible rfl)
  (try simp only[Act.put,Aa,Ab,Ac])
  refine Bq (rs:=[4]) zF zQ ?_;refine Bb (o:=_) rfl (fun K hK=> ?_) AllReadyH.nil
  (go_simp;go_at_call 112;refine (HG.out _ HRD3.out).mono ?_;rintro e1 w7 ⟨rfl,hb7⟩;have E7:=E2.drew.later hb7;have P7:=P2.drew.later hb7;have Q7:=Q2.drew.later hb7;have R7:=R2.drew.later hb7;have HB7:=hid hb7;have hs7:w1.heap.size+1≤w7.heap.size:=(by have:=hb7.size;simp at this;omega);obtain⟨r0,r1,r2,t0,t1,t2,rl⟩:=CI R7;clear E2 P2 Q2 R2 hb7;(try dsimp only))
  refine hK.out _ _ ?_ (fun hHeld=> ?_)
  ·exact SK.out _ zP zP zP
  clear hK K
  (try simp only[Act.put,Aa,Ab,Ac])
  refine Av (i:=5) (oi:=_) (v:=?_) rfl zF zF zF (fun _ _ _ h=>h) (Or.inl ⟨zJ,?_⟩) zM ?_;rotate_left
  ·(intro w hSw;(try dsimp only at hSw);go_simp<;>with_reducible rfl)
  (try simp only[Act.put,Aa,Ab,Ac])
  refine Bq (rs:=[6]) zF zQ ?_;refine Bb (o:=_) rfl (fun K hK=> ?_) AllReadyH.nil;go_simp
  refine hK.out _ _ ?_ (fun hHeld=> ?_)
  ·exact SK.out _ zP zP zP
  clear hK K
  (try simp only[Act.put,Aa,Ab,Ac])
  refine Av (i:=7) (oi:=_) (v:=?_) rfl zF zF zF (fun _ _ _ h=>h) (Or.inl ⟨zU,?_⟩) zM ?_;rotate_left
  ·(intro w hSw;(try dsimp only at hSw);go_simp<;>with_reducible rfl)
  (try simp only[Act.put,Aa,Ab,Ac])
  simp only[Am,Ak,Aj,Act.put,Aa,Ab,Ac];refine GC zJ ?_ _;go_wp2;obtain⟨v0,v1,v2,_,_,_,lF⟩:=CI (((R7.set 0 (.int .u64 e)).set 1 (.int .u64 p)).set 2 (.slice a1 E.length c1));have hbF:Below w.heap.size w1 (((w7.setCell ⟨w.heap.size+1,0,none⟩ (.int .u64 e)).setCell ⟨w.heap.size+1,1,none⟩ (.int .u64 p)).setCell ⟨w.heap.size+1,2,none⟩ (.slice a1 E.length c1)):=by
   have hb17:Below w1.heap.size w1 w7:=(HB12.out.drew).trans (HB7.out.mono zI);have hb17':=hb17.mono (show w.heap.size≤w1.heap.size by omega);exact ((hb17'.setCell zH _).setCell zH _).setCell zH _
  have hdF:=hbF.size;refine An (v:=.tuple #[.agg #[.int .u64 e,.int .u64 p,.slice a1 E.length c1],.bool q]) zBq rfl ⟨_,rfl,?_,⟨HRD.out.blk.below hbF hlt,Ag.mono (Ag.keep HIN0.out.dat fun x hx=>(hbF.block x hx.1).trans ((HTW.out.block x hx.1 hx.2).trans (HBW.out.block x hx.1).symm)) fun x hx=>⟨zD,hx.2⟩,HRD.out.ok⟩,HTW.out.trans (Tch.Db hbF) fun b hb hle=>zD⟩;refine Bu.mono (Bu.keep HV.out fun b hb=> ?_) fun b hb=>⟨ZQ,by have:=hb.2;omega⟩;have:=hb.1;have:=hb.2
  (repeat rw[Aw _ _ _ _ zH])
  exact (HB7.out.block b zI).trans (HB12.out.block b zD)
structure Og(w W:World)(B:List UInt8)(a:Option Addr)(c:Nat)(s sf:Rs)(ge:Nat)(D:List UInt8)(aD:Option Addr)(cD:Nat):Prop where
 b0:Blk W w.heap.size 91 #[.slice a B.length c,.int .i64 (s.p:Int),.int .i64 s.k,.int .i64 s.f]
 b1:Blk W (w.heap.size+1) 91 #[.slice none 0 0,.int .i64 0,.int .i64 0,.int .i64 0]
 be:Blk W ge 91 #[.slice a B.length c,.int .i64 (sf.p:Int),.int .i64 sf.k,.int .i64 sf.f]
 lo:w.heap.size+1<ge
 dat:Ag.r (fun q=>ge<q∧q<W.heap.size) W [.slice aD D.length cD] D
 bel:Below w.heap.size w W
theorem Og.later{V V':World}{sf:Rs}{ge:Nat}{aD:Option Addr}{cD:Nat}(h:Og w V B a c s sf ge D aD cD)(hb:Below V.heap.size V V'):Og w V' B a c s sf ge D aD cD:=
 ⟨h.b0.later hb,h.b1.later hb,h.be.later hb,h.lo,Ag.mono (Ag.keep h.dat fun q hq=>hb.block q hq.2) fun q hq=>⟨hq.1,Ao hq.2 hb.size⟩,Af hb h.bel⟩
theorem Og.data{w V:World}{B:List UInt8}{a:Option Addr}{c:Nat}{s sf:Rs}{ge:Nat}{D':List UInt8}{aD aD':Option Addr}{cD cD':Nat}(h:Og w V B a c s sf ge D aD cD)(hd:Ag.r (fun q=>ge<q∧q<V.heap.size) V [.slice aD' D'.length cD'] D'):Og w V B a c s sf ge D' aD' cD':=
 ⟨h.b0,h.b1,h.be,h.lo,hd,h.bel⟩
theorem Og.set{V:World}{sf:Rs}{ge:Nat}{aD:Option Addr}{cD:Nat}(h:Og w V B a c s sf ge D aD cD)(t:Rs):
  Og w ((((V.setCell ⟨ge,0,none⟩ (.slice a B.length c)).setCell ⟨ge,1,none⟩ (.int .i64 (t.p:Int))).setCell ⟨ge,2,none⟩ (.int .i64 t.k)).setCell ⟨ge,3,none⟩ (.int .i64 t.f)) B a c s t ge D aD cD:=by
 have hlo:=h.lo;refine⟨?_,?_,?_,hlo,?_,?_⟩
 ·exact Blk.far (Blk.far (Blk.far (Blk.far h.b0 zH _) zH _) zH _) zH _
 ·exact Blk.far (Blk.far (Blk.far (Blk.far h.b1 zH _) zH _) zH _) zH _
 ·exact Blk.set (Blk.set (Blk.set (Blk.set h.be 0 _) 1 _) 2 _) 3 _
 ·refine Ag.mono (Ag.keep h.dat fun q hq=> ?_) fun q hq=>⟨hq.1,by have:=hq.2;simp[World.setCell];omega⟩
  have hq1:=hq.1;repeat (rw[Aw _ _ _ _ zH])
 ·have hb:=h.bel
  (repeat (first | with_reducible exact Below.refl _ _ | with_reducible assumption | (with_reducible refine Au ?_ _) | (with_reducible refine Below.setCell ?_ zE _) | (with_reducible refine Below.drew ?_) | (with_reducible refine below_drewN ?_ _) | (refine Af zG ?_)))
structure UC(w:World)(B:List UInt8)(a:Option Addr)(c:Nat)(m:Msg)(v1 v2 v3 v4:Value)(s:Rs)(W:World):Prop where
 d:Blk W w.heap.size 91 #[.slice a B.length c,.int .i64 (s.p:Int),.int .i64 s.k,.int .i64 s.f]
 r6:Blk W (w.heap.size+1) 91 #[.slice none 0 0,.int .i64 0,.int .i64 0,.int .i64 0]
 r7:Blk W (w.heap.size+1+1) 45 zeroCells
 pm:Blk W (w.heap.size+1+1+1) 45 (Ps m v1 v2 v3 v4)
 ok:s.ok B.length
 bel:Below w.heap.size w W
 low:w.heap.size+1+1+1+1≤W.heap.size
 st:Bw.r (fun b=>w.heap.size+1+1+1+1≤b∧b<W.heap.size) W [v1] m.streams
 ln:Cb.r (fun b=>w.heap.size+1+1+1+1≤b∧b<W.heap.size) W [v2] m.links
 da:Ag.r (fun b=>w.heap.size+1+1+1+1≤b∧b<W.heap.size) W [v3] m.data
 sp:E0.r (fun b=>w.heap.size+1+1+1+1≤b∧b<W.heap.size) W [v4] m.proj.stripes
theorem UC.later{m:Msg}{v3 v4:Value}(h:UC w B a c m v1 v2 v3 v4 s W)(hb:Below W.heap.size W W'):UC w B a c m v1 v2 v3 v4 s W':=by
 have hk:∀b,w.heap.size+1+1+1+1≤b∧b<W.heap.size→W'.heap[b]? =W.heap[b]? :=fun b hb'=>hb.block b hb'.2;have hm:∀b,w.heap.size+1+1+1+1≤b∧b<W.heap.size→w.heap.size+1+1+1+1≤b∧b<W'.heap.size:=fun b hb'=>⟨hb'.1,Ao hb'.2 hb.size⟩;exact⟨h.d.later hb,h.r6.later hb,h.r7.later hb,h.pm.later hb,h.ok,Af hb h.bel,A6 h.low hb.size,Bw.mono (Bw.keep h.st hk) hm,Cb.mono (Cb.keep h.ln hk) hm,Ag.mono (Ag.keep h.da hk) hm,E0.mono (E0.keep h.sp hk) hm⟩
def Rs.fin(L:Nat)(s:Rs):Rs:=if s.p<L then s.fail 9 s.p else s
theorem NG(w:World){g:Nat}{B:List UInt8}{a:Option Addr}{s:Rs}(h:AN w g B a s):Calls Tryz.prog 203 #[.pointer (some ⟨g,0,none⟩)] w fun r w'=>r=.returned (.tuple #[])∧Ay w g B a (s.fin B.length) w':=by
 have HLF:=hid (K8 w h);have HH:=hid h;have hln:=h.len;have hle:=h.ok.le;unfold Rs.fin;clear h;by_cases hp:s.p<B.length
 ·rw[Ai hp]
  have d1:decide ((0:Int)<(B.length:Int)-(s.p:Int))=true:=Ad zD;have d2:decide (s.p<B.length)=true:=Ad hp;clear hp;go_enter Tryz.func203,Tryz.ntmps203;go_wp2_with fail;refine HLF.out.mono ?_;rintro r w1 ⟨rfl,hb1⟩;have HH1:=hid (HH.out.later hb1);have x1:=HH1.out.blk.cell 1;simp at x1;go_wp2_with fail;refine (Bd w1 HH1.out 9 (s.p:Int) zD).mono ?_;rintro r w2 ⟨rfl,hst⟩;have HST:=hid (Ay.trans (s':=s.fail 9 s.p) (Tch.Bz (F:=(·=g)) hb1) hst);clear hst x1;go_wp2;first | go_end0 | refine An (AO rfl _ _ _) rfl ?_
  exact⟨rfl,HST.out⟩
 ·rw[Ah hp]
  have d1:decide ((0:Int)<(B.length:Int)-(s.p:Int))=false:=Ae zD;have d2:decide (s.p<B.length)=false:=Ae hp;clear hp;go_enter Tryz.func203,Tryz.ntmps203;go_wp2_with fail;refine HLF.out.mono ?_;rintro r w1 ⟨rfl,hb1⟩;have HST:=hid (Ay.later HH.out hb1);go_wp2;first | go_end0 | refine An (AO rfl _ _ _) rfl ?_
  exact⟨rfl,HST.out⟩
theorem Rs.Ql{most:Int}(h:(s.loose B most).1.k≠0):(s.loose B most).2.1=[]∧(s.loose B most).2.2=false:=by
 unfold Rs.loose at*;by_cases h1:((s.int B (min most 1048576)).1.byte B).1.k=0
 ·rw[Ai h1] at h ⊢
  by_cases h2:((s.int B (min most 1048576)).1.byte B).2.toNat=0
  ·rw[Ai h2] at h ⊢
   by_cases h3:(((s.int B (min most 1048576)).1.byte B).1.take B ((s.int B (min most 1048576)).2:Int)).1.k=0
   ·rw[Ai h3] at h;exact absurd h3 h
   ·rw[Ah h3];exact⟨rfl,rfl⟩
  ·rw[Ah h2] at h ⊢
   by_cases h4:((s.int B (min most 1048576)).1.byte B).2.toNat=1
   ·rw[Ai h4] at h ⊢
    by_cases h3:(((s.int B (min most 1048576)).1.byte B).1.unp B (s.int B (min most 1048576)).2).1.k=0
    ·rw[Ai h3] at h;exact absurd h3 h
    ·rw[Ah h3];exact⟨rfl,rfl⟩
   ·rw[Ah h4];exact⟨rfl,rfl⟩
 ·rw[Ah h1];exact⟨rfl,rfl⟩
theorem Rs.LN(h:(s.loose B m).2.2=true):CM (s.loose B m).2.1=(B.drop s.p).take ((s.loose B m).1.p-s.p):=by
 unfold Rs.loose at*;by_cases h1:((s.int B (min m 1048576)).1.byte B).1.k=0
 ·simp only[Ai h1] at h ⊢
  by_cases h2:((s.int B (min m 1048576)).1.byte B).2.toNat=0
  ·simp only[Ai h2] at h ⊢
   by_cases h3:(((s.int B (min m 1048576)).1.byte B).1.take B ((s.int B (min m 1048576)).2:Int)).1.k=0
   ·simp only[Ai h3] at h ⊢
    exact Gq h
   ·simp only[Ah h3] at h;cases h
  ·simp only[Ah h2] at h ⊢
   by_cases h4:((s.int B (min m 1048576)).1.byte B).2.toNat=1
   ·simp only[Ai h4] at h ⊢
    by_cases h3:(((s.int B (min m 1048576)).1.byte B).1.unp B (s.int B (min m 1048576)).2).1.k=0
    ·simp only[Ai h3] at h ⊢
     exact Gq h
    ·simp only[Ah h3] at h;cases h
   ·simp only[Ah h4] at h;cases h
 ·simp only[Ah h1] at h;cases h
theorem Rt(t:Rs):((C8 B t).1=(DD B t).1∧(C8 B t).2.1=(DD B t).2.1∧((DD B t).1.k=0→(DD B t).2.2=true))∨((C8 B t).1.k=12∧(DD B t).1.k=0∧(DD B t).2.2=false):=by
 have hb:=Rs.Ql (B:=B) (s:=t) (most:=1048576);unfold C8 DD Rs.strict;generalize t.loose B 1048576=L at*;obtain⟨s,D,q⟩:=L;dsimp only at*;by_cases h:s.k=0
 ·rw[Ai h]
  cases q
  ·right
   refine⟨?_,h,rfl⟩;simp[Rs.fail,h]
  ·left
   simp
 ·rw[Ah h]
  left;exact⟨rfl,(hb h).1.symm,fun e=>absurd e h⟩
def Tr(e p:Int)(H:List (List Ba × Nat))(o:Nat)(T:Rs × List UInt8 × Bool):Rs × Batch × Bool:=
 let u:Rs:=if C7 H=T.2.1.length then T.1 else T.1.fail 3 o
 if u.k=0 then (u,⟨e,p,E5 H T.2.1⟩,T.2.2) else (u,EG,false)
theorem Ns{blk:Rs→Rs × List UInt8 × Bool}:Rs.batch B blk s=if (s.Bm B).1.k=0 then Tr ((s.Bm B).2.1:Int) ((s.Bm B).2.2.1:Int) (Rs.Dl B (s.Bm B).2.2.2 (s.Bm B).1 ((s.Bm B).2.2.1:Int) 1048576 []).2 (Rs.Dl B (s.Bm B).2.2.2 (s.Bm B).1 ((s.Bm B).2.2.1:Int) 1048576 []).1.p (blk (Rs.Dl B (s.Bm B).2.2.2 (s.Bm B).1 ((s.Bm B).2.2.1:Int) 1048576 []).1) else ((s.Bm B).1,EG,false):=rfl
theorem L5{e p:Int}{H:List (List Ba × Nat)}{T:Rs × List UInt8 × Bool}(h:T.1.k≠0):Tr e p H o T=(T.1,EG,false):=by
 have hu:(if C7 H=T.2.1.length then T.1 else T.1.fail 3 o)=T.1:=by
  split
  ·rfl
  ·exact Rs.CW h
 unfold Tr;dsimp only;simp only[hu];rw[Ah h]
theorem Kb{e p:Int}{H:List (List Ba × Nat)}{T:Rs × List UInt8 × Bool}(h:T.1.k=0):Tr e p H o T=if C7 H=T.2.1.length then (T.1,⟨e,p,E5 H T.2.1⟩,T.2.2) else (T.1.fail 3 o,EG,false):=by
 unfold Tr;dsimp only;by_cases h2:C7 H=T.2.1.length
 ·simp only[Ai h2,Ai h]
 ·have hk:(T.1.fail 3 (o:Int)).k≠0:=Rs.A0 zD
  simp only[Ah h2,Ah hk]
theorem SC(s:Rs):((Rs.batch B (C8 B) s).1=(Rs.batch B (DD B) s).1∧(Rs.batch B (C8 B) s).2.1=(Rs.batch B (DD B) s).2.1∧((Rs.batch B (DD B) s).1.k=0→(Rs.batch B (DD B) s).2.2=true))∨((Rs.batch B (C8 B) s).1.k=12∧((Rs.batch B (DD B) s).1.k=0→(Rs.batch B (DD B) s).2.2=false)):=by
 rw[Ns,Ns];by_cases h1:(s.Bm B).1.k=0
 ·rw[Ai h1,Ai h1]
  generalize Rs.Dl B (s.Bm B).2.2.2 (s.Bm B).1 ((s.Bm B).2.2.1:Int) 1048576 []=H;rcases Rt (B:=B) H.1 with ⟨e1,e2,e3⟩ | ⟨e1,e2,e3⟩
  ·left
   generalize C8 B H.1=S at*;generalize DD B H.1=L at*;obtain⟨s1,D1,q1⟩:=S;obtain⟨s2,D2,q2⟩:=L;dsimp only at e1 e2 e3;subst e1 e2;by_cases h2:s1.k=0
   ·have hq:=e3 h2
    subst hq;rw[Kb h2,Kb h2];dsimp only;by_cases h3:C7 H.2=D1.length
    ·simp only[Ai h3]
     exact⟨trivial,trivial,fun _=>trivial⟩
    ·have hk:(s1.fail 3 (H.1.p:Int)).k≠0:=Rs.A0 zD
     simp only[Ah h3];exact⟨trivial,trivial,fun e=>absurd e hk⟩
   ·rw[L5 h2,L5 h2]
    exact⟨rfl,rfl,fun e=>absurd e h2⟩
  ·right
   have hb:(C8 B H.1).1.k≠0:=by rw[e1];decide
   rw[L5 hb,Kb e2];refine⟨e1,fun h=> ?_⟩;by_cases h3:C7 H.2=(DD B H.1).2.1.length
   ·simp only[Ai h3];exact e3
   ·have hk:((DD B H.1).1.fail 3 (H.1.p:Int)).k≠0:=Rs.A0 zD
    simp only[Ah h3] at h;exact absurd h hk
 ·rw[Ah h1,Ah h1]
  left;exact⟨rfl,rfl,fun e=>absurd e h1⟩
theorem L4(h:(s.fin L).k=0):s.k=0∧L≤s.p∧s.fin L=s:=by
 unfold Rs.fin at*;by_cases h1:s.p<L
 ·rw[Ai h1] at h;exact absurd h (Rs.A0 zD)
 ·rw[Ah h1] at h ⊢;exact⟨h,zD,rfl⟩
theorem TG(t:Rs)(h:(C8 B t).1.k=0):t.k=0:=by
 by_cases hk:t.k=0
 ·exact hk
 ·have:(C8 B t).1=t:=by
   unfold C8;rw[Rs.JB hk];unfold Rs.strict;rw[Ah hk]
  rw[this] at h;exact h
theorem UB(t:Rs)(h:(DD B t).1.k=0):t.k=0:=by
 by_cases hk:t.k=0
 ·exact hk
 ·unfold DD at h
  rw[Rs.JB hk] at h;exact h
theorem Rb{b:Batch}(h:A4 b=true):IF b.entries:=by
 simp only[A4,Aq,Ar] at h;obtain⟨_,hf,ht,he⟩:=h;simp only[Dc,Ar] at hf;refine⟨zD,zD,?_⟩;have key:∀(l:List Entry) (p:Int),Cc p l=true→∀e∈l,∀x∈e.links,x.backs.length≤1000000:=by
  intro l;induction l with
  | nil=>intro p _ e he;simp at he
  | cons a l ih=>
   intro p h e he x hx;simp only[Cc,Aq] at h;rcases List.mem_cons.1 he with rfl | he
   ·have h1:=h.1
    simp only[Dq,BY,Aq,Ar,List.all_eq_true] at h1;have:=h1.1.2.2 x hx;simp only[CD,Aq,Ar] at this;omega
   ·exact ih _ h.2 e he x hx
 exact key _ _ he
theorem OX(w:World)(B:List UInt8)(a:Option Addr)(n c:Nat)(hl:Ag.r (·<w.heap.size) w [.slice a n c] B)(hB:B.length≤1000000000):
  Calls Tryz.prog 55 #[.slice a n c] w fun r w'=>∃q:Bool,r=.returned (.bool q)∧w=w':=by
 obtain⟨rfl,hm,_,_⟩:=AH hl;have HL:=hid hl;clear hl;go_enter Tryz.func55,Tryz.ntmps55;go_wp2;go_loop [3] (fun i=>∃k:Nat,k≤B.length∧i=.int .i64 k) (fun i=>B.length+1-(intOf i).toNat)
 case atStart=>exact ⟨0,At _,rfl⟩
 case round=>
  obtain⟨k,hk,rfl⟩:=hrel;by_cases h1:k+1<B.length
  ·obtain⟨b1,o1,hA1,hb1,hx1⟩:=BJ HL.out (i:=k) zD
   obtain⟨b2,o2,hA2,hb2,hx2⟩:=BJ HL.out (i:=k+1) h1;subst hA1;simp only[Bh,Ic,AF] at hA2;obtain⟨rfl,rfl⟩:=hA2;have e1:decide ((k:Int)+1<(B.length:Int))=true:=Ad zD;have i1:(k:Int)<(B.length:Int):=zD;have i2:(k:Int)+1<(B.length:Int):=zD;generalize B[k].toNat=x at*;generalize B[k+1].toNat=y at*;by_cases c1:128≤x
   ·have d1:decide ((128:Int)≤(x:Int))=true:=Ad zD
    have d1':decide (128≤x)=true:=Ad c1;by_cases c2:3≤y
    ·have d2:decide ((3:Int)≤(y:Int))=true:=Ad zD
     have d2':decide (3≤y)=true:=Ad c2;go_wp2;go_ret;first | exact⟨.inl rfl,rfl⟩ | exact⟨.inr rfl,rfl⟩
    ·have d2:decide ((3:Int)≤(y:Int))=false:=Ae zD
     have d2':decide (3≤y)=false:=Ae c2;go_wp2;go_round
     case rel=>exact ⟨k+1,zD,zT⟩
     case measure=>simp [intOf];omega
   ·have d1:decide ((128:Int)≤(x:Int))=false:=Ae zD
    have d1':decide (128≤x)=false:=Ae c1;go_wp2;go_round
    case rel=>exact ⟨k+1,zD,zT⟩
    case measure=>simp [intOf];omega
  ·have e1:decide ((k:Int)+1<(B.length:Int))=false:=Ae zD
   go_wp2;go_ret;first | exact⟨.inl rfl,rfl⟩ | exact⟨.inr rfl,rfl⟩
theorem Rs.UW:inU ((s.ep B).2:Int):=by
 have:=Rs.D5 (B:=B) (s:=s);unfold Rs.ep inU;split
 ·split
  ·omega
  ·simp
 ·simp
theorem FQ:inU 0:=⟨Int.le_refl _,zO⟩
theorem LX:inI 0:=⟨zO,zO⟩
structure Uh(m:Msg):Prop where
 kind:inI m.kind
 epoch:inU m.epoch
 seq:inU m.seq
 pos:inU m.pos
 count:inI m.count
 state:inI m.state
 sealE:inU m.sea.epoch
 sealN:inU m.sea.node
 sealT:inU m.sea.tail
 projE:inU m.proj.epoch
theorem Uh.none:Uh UR:=⟨LX,FQ,FQ,FQ,LX,LX,FQ,FQ,FQ,FQ⟩
theorem Uh.to{m:Msg}(h:Uh m){S:Nat→Prop}{W:World}{a1:Option Addr}{c1:Nat}{a2:Option Addr}{c2:Nat}{a3:Option Addr}{c3:Nat}{a4:Option Addr}{c4:Nat}(h1:Bw.r S W [.slice a1 m.streams.length c1] m.streams)(h2:Cb.r S W [.slice a2 m.links.length c2] m.links)(h3:Ag.r S W [.slice a3 m.data.length c3] m.data)(h4:E0.r S W [.slice a4 m.proj.stripes.length c4] m.proj.stripes):
  Gm S W m a1 c1 a2 c2 a3 c3 a4 c4:=⟨h.kind,h.epoch,h.seq,h.pos,h.count,h.state,h.sealE,h.sealN,h.sealT,h.projE,h1,h2,h3,h4⟩
theorem Gm.put{m:Msg}{a2:Option Addr}{c2:Nat}{a3:Option Addr}{c3:Nat}{a4:Option Addr}{c4:Nat}{e n:Int}(h:Gm S w m a1 c1 a2 c2 a3 c3 a4 c4)(he:inU e)(hn:inU n):Gm S w ⟨m.kind,e,n,m.pos,m.count,m.state,m.streams,m.links,m.data,m.sea,m.proj⟩ a1 c1 a2 c2 a3 c3 a4 c4:=
 ⟨h.kind,he,hn,h.pos,h.count,h.state,h.sealE,h.sealN,h.sealT,h.projE,h.streams,h.links,h.data,h.stripes⟩
structure SH(w:World)(B:List UInt8)(a:Option Addr)(s:Rs)(W:World):Prop where
 rd:AN W (w.heap.size+1+1) B a s
 mb:Blk W w.heap.size 45 zeroCells
 fb:Blk W (w.heap.size+1) 65 #[.int .i64 0,.int .i64 0]
 bl:Below w.heap.size w W
section
variable {w W W':World} {B:List UInt8} {a:Option Addr} {s s':Rs}
theorem SH.step(h:SH w B a s W)(k:Ay W (w.heap.size+1+1) B a s' W'):SH w B a s' W':=
 ⟨k.1,h.mb.tch k.2 zD,h.fb.tch k.2 zD,h.bl.trans (k.2.Cq h.bl.size fun b hb e=>zD)⟩
theorem SH.row(h:SH w B a s W)(hb:Below W.heap.size W W'):SH w B a s W':=
 ⟨h.rd.later hb,h.mb.later hb,h.fb.later hb,h.bl.trans (hb.mono h.bl.size)⟩
end
theorem QB:(Uc ((⟨0,0,0⟩:Rs).frame B m)).2.1≤B.length∧(Uc ((⟨0,0,0⟩:Rs).frame B m)).1.length≤2097152:=by
 have h0:(⟨0,0,0⟩:Rs).ok B.length:=⟨At _,fun _=>rfl⟩;have h1:=Rs.Gk h0 (min m 2097152);have h2:=Rs.EU h1 4;have h3:=Rs.EJ (B:=B) (s:=⟨0,0,0⟩) (m:=min m 2097152);have h4:((⟨0,0,0⟩:Rs).Dk B (min m 2097152)).2.length≤2097152:=by
  unfold Rs.Dk;have:=Rs.take_len (B:=B) (s:=((⟨0,0,0⟩:Rs).int B (min m 2097152)).1) (n:=(((⟨0,0,0⟩:Rs).int B (min m 2097152)).2:Int));omega
 have h5:((⟨0,0,0⟩:Rs).frame B m).1.ok B.length:=by
  unfold Rs.frame;dsimp only;split
  ·exact h2
  ·exact Rs.Ce h2 zD
 have h6:((⟨0,0,0⟩:Rs).frame B m).2.length≤2097152:=by
  unfold Rs.frame;dsimp only;generalize (if B8 (Rs.Dk B ⟨0,0,0⟩ (min m 2097152)).2=_ then _ else _:Rs)=r;by_cases hr:r.k=0
  ·rw[Ai hr];exact h4
  ·rw[Ah hr];simp
 unfold Uc;split
 ·exact⟨h5.le,h6⟩
 ·exact⟨At _,zQ⟩
theorem N2(w:World)(k f b:Int)(hk:k≠0):Calls Tryz.prog 117 #[.agg #[.int .i64 k,.int .i64 f],.int .i64 b] w fun r w'=>r=.returned (.agg #[.int .i64 k,.int .i64 (wrap64 (f+b))])∧Below w.heap.size w w':=by
 obtain⟨v,hv⟩:∃v,wrap64 (f+b)=v:=⟨_,rfl⟩;rw[hv];have HV:=hid hv;clear hv;go_enter Tryz.func117,Tryz.ntmps117;go_wp2_with fail;rw[HV.out];refine (L6 _ k v hk).mono ?_;rintro r w1 ⟨rfl,hb1⟩;have B1:Blk w1 (w.heap.size+1) 65 #[.int .i64 0,.int .i64 0]:=Blk.later zC hb1;obtain⟨y0,y1,g0,g1,l1⟩:=Bg B1;have hbw:Below w.heap.size w w1:=zA;clear B1 hb1;go_wp2;refine An (v:=.agg #[.int .i64 k,.int .i64 v]) zBd rfl ⟨rfl,zA⟩
structure SI(w W:World):Prop where
 mb:Blk W w.heap.size 45 zeroCells
 fb:Blk W (w.heap.size+1) 65 #[.int .i64 0,.int .i64 0]
 bl:Below w.heap.size w W
section
variable {w W W':World}
theorem SI.row(h:SI w W)(hb:Below W.heap.size W W'):SI w W':=
 ⟨h.mb.later hb,h.fb.later hb,h.bl.trans (hb.mono h.bl.size)⟩
theorem SI.tch(h:SI w W)(hg:w.heap.size+1<g)(hb:Tch (·=g) W W'):SI w W':=
 ⟨h.mb.tch hb zD,h.fb.tch hb zD,h.bl.trans (hb.Cq h.bl.size fun b hb e=>zD)⟩
end
theorem Rs.Th{t:Rs}(ht:t.ok B.length):t.p≤(t.loose B m).1.p:=by
 have h1:=Rs.Tl (B:=B) (s:=t) (m:=min m 1048576);have o1:=Rs.Dp (B:=B) (m:=min m 1048576) ht;have h2:=Rs.Mh (B:=B) o1;have o2:=Rs.Fp (B:=B) o1;have h3:=Rs.PK (B:=B) o2 ((t.int B (min m 1048576)).2:Int);have h4:=Rs.Uk (B:=B) o2 (t.int B (min m 1048576)).2;unfold Rs.loose;split
 ·split
  ·split<;>(dsimp only;omega)
  ·split
   ·split<;>(dsimp only;omega)
   ·dsimp only
    rw[Rs.Hr];omega
 ·dsimp only
  omega
theorem Pu(t:Rs)(ht:t.ok B.length)(h:(DD B t).1.k=0)(hf:(DD B t).2.2=true):B.drop t.p=CM (DD B t).2.1++B.drop (DD B t).1.p:=by
 have h1:=Rs.LN (B:=B) (s:=t) (m:=1048576) hf;have h2:=Rs.Th (B:=B) ht (m:=1048576);unfold DD at*;rw[h1];have:B.drop (t.loose B 1048576).1.p=(B.drop t.p).drop ((t.loose B 1048576).1.p-t.p):=by
  rw[List.drop_drop];congr 1
  omega
 rw[this,Dr]
theorem TH(t:Rs)(ht:t.ok B.length)(h:(C8 B t).1.k=0)(hf:(C8 B t).2.2=true):B.drop t.p=CM (C8 B t).2.1++B.drop (C8 B t).1.p:=by
 rcases Rt (B:=B) t with ⟨h1,h2,h3⟩ | ⟨h1,h2,h3⟩
 ·rw[h1] at h ⊢
  rw[h2];exact Pu t ht h (h3 h)
 ·omega
theorem TF{t:Rs}(h:t.ok B.length):(C8 B t).1.ok B.length:=by
 unfold C8 Rs.strict;dsimp only;split
 ·split
  ·exact Rs.JA h 1048576
  ·exact Rs.Ce (Rs.JA h 1048576) zD
 ·exact Rs.JA h 1048576
theorem Sy(t:Rs):(DD B t).2.1.length≤1048576:=Rs.J5
theorem Gc{lo:Nat}(h:W.ownsRow lo e sz v n xs):∀b,v.ownBlock=some b→lo≤b∧b<W.heap.size:=fun b hv=>h.lt b hv
theorem Rs.Tq(h:s.ok L)(hk:(s.fin L).k=0):s.k=0∧s.p=L:=by
 have hl:=h.le;unfold Rs.fin at hk;split at hk
 ·exact absurd hk (Rs.A0 zD)
 ·exact⟨hk,zD⟩
theorem Rs.NZ(h:s.k≠0):s.fin L=s:=by
 unfold Rs.fin;split
 ·exact Rs.CW h
 ·rfl
end Go.Proofs.YtfddhafbhceoaaaGreat
namespace Go.Bs
open Go.RowKit
variable{cs:List Value}{c i n:Nat}{S:Nat → Prop}{a:Option Addr}{w:World}
structure AU where
 pos:Int
 count:Int
 at_:Int
def He:Rp AU:=rBy (fun m=>(m.pos,m.count,m.at_)) (Hd (Js .u64) (Hd (Js .i64) (Js .i64)))
def Bk:Rp (List AU):=rSl 3 He
structure Gn(m:AU):Prop where
 p:0≤m.pos∧m.pos≤18446744073709551615
 c: -9223372036854775808≤m.count∧m.count≤9223372036854775807
 a: -9223372036854775808≤m.at_∧m.at_≤9223372036854775807
theorem J8{n:Int}(h: -9223372036854775808≤n∧n≤9223372036854775807):(Lit.int .i64 n).wf=true:=by
 simp[Lit.wf,IntKind.min,IntKind.max,IntKind.signed,IntKind.bits];omega
theorem LL{x:AU}(h:He.r S w cs x):cs=[.int .u64 x.pos,.int .i64 x.count,.int .i64 x.at_]∧Gn x:=by
 obtain⟨c1,c2,rfl,⟨rfl,hw⟩,d1,d2,rfl,⟨rfl,hw2⟩,⟨rfl,hw3⟩⟩:=h;exact⟨rfl,bounds_u64 hw,bounds_i64 hw2,bounds_i64 hw3⟩
theorem Jy{x:AU}(h:Gn x):He.r S w [.int .u64 x.pos,.int .i64 x.count,.int .i64 x.at_] x:=
 ⟨[_],[_,_],rfl,⟨rfl,JV h.p⟩,[_],[_],rfl,⟨rfl,J8 h.c⟩,⟨rfl,J8 h.a⟩⟩
theorem GM{xs:List AU}(h:Bk.r S w [.slice a n c] xs)(hi:i<xs.length):∃b off,a=some ⟨b,off,none⟩∧S b∧w.cell? ⟨b,off+i*3,none⟩=some (.int .u64 xs[i].pos)∧w.cell? ⟨b,off+i*3+1,none⟩=some (.int .i64 xs[i].count)∧w.cell? ⟨b,off+i*3+2,none⟩=some (.int .i64 xs[i].at_)∧Gn xs[i]:=by
 obtain⟨b,off,e,hS,cs,_,hc,hA⟩:=It h hi;obtain⟨rfl,hn⟩:=LL hA;exact⟨b,off,e,hS,hc 0 _ rfl,hc 1 _ rfl,hc 2 _ rfl,hn⟩
def CU(m:AU)(pos at_:Int):Bool:=decide (1≤m.count)&&(decide (m.count≤16)&&(decide (pos≤m.pos)&&(decide (m.pos<4611686018427387904)&&(decide (m.pos+m.count≤4611686018427387904)&&(decide (at_<m.at_)&&decide (m.at_≤1099511627775))))))
def DM:Int→Int→List AU→Bool
 | _,_,[]=>true
 | p,a,m::l=>CU m p a&&DM (m.pos+m.count) m.at_ l
def Cv(l:List AU):Bool:=DM 0 0 l&&decide (l.length≤16)
theorem DV{m:AU}{p a:Int}(h:CU m p a=true):1≤m.count∧m.count≤16∧p≤m.pos∧m.pos<4611686018427387904∧m.pos+m.count≤4611686018427387904∧a<m.at_∧m.at_≤1099511627775:=by
 simpa only[CU,Aq,Ar] using h
end Go.Bs
namespace Go.Proofs.YtfddhafbhceoaaaGreat
open Go.RowKit Go.Bs Go.Maps
variable{m:Int}{B D J:List UInt8}{xs:List Value}{L base c c1 g n o p sz:Nat}{S:Nat → Prop}{a a1:Option Addr}{s:Rs}{e:TypeId}{v v1 v2:Value}{W W' w w1:World}
theorem Ew(m:AU)(hp:0≤m.pos)(hc:0≤m.count∧m.count≤9223372036854775807)(hs:m.pos+m.count≤18446744073709551615)(w:World):
  Calls Tryz.prog 283 #[.agg #[.int .u64 m.pos,.int .i64 m.count,.int .i64 m.at_]] w fun r w'=>r=.returned (.int .u64 (m.pos+m.count))∧Below w.heap.size w w':=by
 obtain⟨p,c,a⟩:=m;dsimp only at*;have e1:c%18446744073709551616=c:=zD;go_enter Tryz.func283,Tryz.ntmps283;go_wp2;go_ret;exact⟨rfl,zB⟩
theorem LW(m:AU)(hN:Gn m)(pos a:Int)(w:World):
  Calls Tryz.prog 325 #[.agg #[.int .u64 m.pos,.int .i64 m.count,.int .i64 m.at_],.int .u64 pos,.int .i64 a] w fun r w'=>r=.returned (.bool (CU m pos a))∧Below w.heap.size w w':=by
 by_cases h0:1≤m.count
 ·by_cases h1:m.count≤16
  ·by_cases h2:pos≤m.pos
   ·by_cases h3:m.pos<4611686018427387904
    ·by_cases h4:m.pos+m.count≤4611686018427387904
     ·by_cases h5:a<m.at_
      ·by_cases h6:m.at_≤1099511627775
       ·have d0:decide (1≤m.count)=true:=Ad h0
        have d1:decide (m.count≤16)=true:=Ad h1;have d2:decide (pos≤m.pos)=true:=Ad h2;have d3:decide (m.pos<4611686018427387904)=true:=Ad h3;have d4:decide (m.pos+m.count≤4611686018427387904)=true:=Ad h4;have d5:decide (a<m.at_)=true:=Ad h5;have d6:decide (m.at_≤1099511627775)=true:=Ad h6;have hff:Hid (CU m pos a=true):=hid zAr;have HE:=hid (fun W:World=>Ew m hN.p.1 ⟨zD,zD⟩ zD W);clear h0 h1 h2 h3 h4 h5 h6 hN;obtain⟨mp,mc,ma⟩:=m;dsimp only at*;go_enter JR,Ib;go_wp2_with fail;refine (HE.out _).mono ?_;rintro r w1 ⟨rfl,hb1⟩;have hbox:=(Blk.new w 88 #[.int .u64 mp,.int .i64 mc,.int .i64 ma]).later hb1;have c2:w1.cell? ⟨w.heap.size,2,none⟩=some (.int .i64 ma):=hbox.cell 2;clear hbox;go_wp2;go_ret;exact⟨zK,zB⟩
       ·have d0:decide (1≤m.count)=true:=Ad h0
        have d1:decide (m.count≤16)=true:=Ad h1;have d2:decide (pos≤m.pos)=true:=Ad h2;have d3:decide (m.pos<4611686018427387904)=true:=Ad h3;have d4:decide (m.pos+m.count≤4611686018427387904)=true:=Ad h4;have d5:decide (a<m.at_)=true:=Ad h5;have d6:decide (m.at_≤1099511627775)=false:=Ae h6;have hff:Hid (CU m pos a=false):=hid zAr;have HE:=hid (fun W:World=>Ew m hN.p.1 ⟨zD,zD⟩ zD W);clear h0 h1 h2 h3 h4 h5 h6 hN;obtain⟨mp,mc,ma⟩:=m;dsimp only at*;go_enter JR,Ib;go_wp2_with fail;refine (HE.out _).mono ?_;rintro r w1 ⟨rfl,hb1⟩;have hbox:=(Blk.new w 88 #[.int .u64 mp,.int .i64 mc,.int .i64 ma]).later hb1;have c2:w1.cell? ⟨w.heap.size,2,none⟩=some (.int .i64 ma):=hbox.cell 2;clear hbox;go_wp2;go_ret;exact⟨zK,zB⟩
      ·have d0:decide (1≤m.count)=true:=Ad h0
       have d1:decide (m.count≤16)=true:=Ad h1;have d2:decide (pos≤m.pos)=true:=Ad h2;have d3:decide (m.pos<4611686018427387904)=true:=Ad h3;have d4:decide (m.pos+m.count≤4611686018427387904)=true:=Ad h4;have d5:decide (a<m.at_)=false:=Ae h5;have hff:Hid (CU m pos a=false):=hid (by simp only[CU,d0,d1,d2,d3,d4,d5,D7,JS]);have HE:=hid (fun W:World=>Ew m hN.p.1 ⟨zD,zD⟩ zD W);clear h0 h1 h2 h3 h4 h5 hN;obtain⟨mp,mc,ma⟩:=m;dsimp only at*;go_enter JR,Ib;go_wp2_with fail;refine (HE.out _).mono ?_;rintro r w1 ⟨rfl,hb1⟩;have hbox:=(Blk.new w 88 #[.int .u64 mp,.int .i64 mc,.int .i64 ma]).later hb1;have c2:w1.cell? ⟨w.heap.size,2,none⟩=some (.int .i64 ma):=hbox.cell 2;clear hbox;go_wp2;go_ret;exact⟨zK,zB⟩
     ·have d0:decide (1≤m.count)=true:=Ad h0
      have d1:decide (m.count≤16)=true:=Ad h1;have d2:decide (pos≤m.pos)=true:=Ad h2;have d3:decide (m.pos<4611686018427387904)=true:=Ad h3;have d4:decide (m.pos+m.count≤4611686018427387904)=false:=Ae h4;have hff:Hid (CU m pos a=false):=hid (by simp only[CU,d0,d1,d2,d3,d4,D7,JS]);have HE:=hid (fun W:World=>Ew m hN.p.1 ⟨zD,zD⟩ zD W);clear h0 h1 h2 h3 h4 hN;obtain⟨mp,mc,ma⟩:=m;dsimp only at*;go_enter JR,Ib;go_wp2_with fail;refine (HE.out _).mono ?_;rintro r w1 ⟨rfl,hb1⟩;have hbox:=(Blk.new w 88 #[.int .u64 mp,.int .i64 mc,.int .i64 ma]).later hb1;have c2:w1.cell? ⟨w.heap.size,2,none⟩=some (.int .i64 ma):=hbox.cell 2;clear hbox;go_wp2;go_ret;exact⟨zK,zB⟩
    ·have d0:decide (1≤m.count)=true:=Ad h0
     have d1:decide (m.count≤16)=true:=Ad h1;have d2:decide (pos≤m.pos)=true:=Ad h2;have d3:decide (m.pos<4611686018427387904)=false:=Ae h3;have hff:Hid (CU m pos a=false):=hid (by simp only[CU,d0,d1,d2,d3,D7,JS]);clear h0 h1 h2 h3 hN;obtain⟨mp,mc,ma⟩:=m;dsimp only at*;go_enter JR,Ib;go_wp2;go_ret;exact⟨zK,zB⟩
   ·have d0:decide (1≤m.count)=true:=Ad h0
    have d1:decide (m.count≤16)=true:=Ad h1;have d2:decide (pos≤m.pos)=false:=Ae h2;have hff:Hid (CU m pos a=false):=hid (by simp only[CU,d0,d1,d2,D7,JS]);clear h0 h1 h2 hN;obtain⟨mp,mc,ma⟩:=m;dsimp only at*;go_enter JR,Ib;go_wp2;go_ret;exact⟨zK,zB⟩
  ·have d0:decide (1≤m.count)=true:=Ad h0
   have d1:decide (m.count≤16)=false:=Ae h1;have hff:Hid (CU m pos a=false):=hid (by simp only[CU,d0,d1,D7,JS]);clear h0 h1 hN;obtain⟨mp,mc,ma⟩:=m;dsimp only at*;go_enter JR,Ib;go_wp2;go_ret;exact⟨zK,zB⟩
 ·have d0:decide (1≤m.count)=false:=Ae h0
  have hff:Hid (CU m pos a=false):=hid (by simp only[CU,d0,D7,JS]);clear h0 hN;obtain⟨mp,mc,ma⟩:=m;dsimp only at*;go_enter JR,Ib;go_wp2;go_ret;exact⟨zK,zB⟩
theorem Lz(p a:Int)(l:List AU)(k:Nat)(h:k<l.length):DM p a (l.drop k)=(CU l[k] p a&&DM (l[k].pos+l[k].count) l[k].at_ (l.drop (k+1))):=by
 rw[AD h];rfl
theorem Hk(l:List AU)(al:Option Addr)(nl cl:Nat)(w:World)(hl:Bk.r (·<w.heap.size) w [.slice al nl cl] l):
  Calls Tryz.prog 282 #[.slice al nl cl] w fun r w'=>r=.returned (.bool (Cv l))∧Below w.heap.size w w':=by
 obtain⟨rfl,hm,_,_⟩:=AH hl;have HL:=hid hl;clear hl;go_enter Tryz.func282,Tryz.ntmps282;go_wp2_with fail;go_loopw [3,4,9] (fun p a i wr=>∃(k:Nat) (pp aa:Int),k≤l.length∧i=.int .i64 k∧p=.int .u64 pp∧a=.int .i64 aa∧Hid (DM 0 0 l=DM pp aa (l.drop k))∧Below w.heap.size w wr) (fun _ _ i _=>l.length-(intOf i).toNat)
 case atStart=>exact ⟨0,0,0,At _,rfl,rfl,rfl,hid rfl,Below.refl _ _⟩
 case round=>
  obtain⟨k,pp,aa,hk,rfl,rfl,rfl,hf,hb⟩:=hrel;by_cases hlt:k<l.length
  ·obtain⟨b,o,hA,hbb,x0,x1,x2,hN⟩:=GM (lift HL.out hb) hlt
   subst hA;have hst:=hid (Lz pp aa l k hlt);have i1:(k:Int)<(l.length:Int):=zD;generalize l[k]=m at*;have HF:=hid (fun W:World=>LW m hN pp aa W);go_wp2_with fail;refine (HF.out _).mono ?_;rintro r w1 ⟨rfl,hb1⟩;have hbox:=(Blk.new wr 88 #[.int .u64 m.pos,.int .i64 m.count,.int .i64 m.at_]).later hb1;have hb2:Below w.heap.size w w1:=Af (Af hb1 zB) hb;cases hfm:CU m pp aa
   ·have hff:Hid (Cv l=false):=hid (by unfold Cv;rw[hf.out,hst.out,hfm];rfl)
    clear hfm hbox;go_wp2;go_ret;exact⟨zK,hb2⟩
   ·obtain⟨g1,g2,g3,g4,g5,g6,g7⟩:=DV hfm
    have hff:Hid (DM 0 0 l=DM (m.pos+m.count) m.at_ (l.drop (k+1))):=hid (by rw[hf.out,hst.out,hfm];rfl);have HE:=hid (fun s:AE w1=>Ew m hN.p.1 ⟨zD,zD⟩ zD s.at_);have Y0:=fun s:AE w1=>s.cell (hbox.cell 0);have Y1:=fun s:AE w1=>s.cell (hbox.cell 1);have Y2:=fun s:AE w1=>s.cell (hbox.cell 2);simp at Y0 Y1 Y2;clear hfm hbox g1 g2 g3 g4 g5 g6 g7 hN;go_wp2_with fail;refine Ax zJ zJ ?_;repeat (go_big_quiet_step ((go_at_call 283;exact A9 (HE.out _))))
    refine AI ?_;rintro W5 ⟨⟨W5',hb5⟩,rfl⟩;go_wp2;go_roundw
    case rel=>exact ⟨k+1,_,_,zD,zT,rfl,rfl,hff,Af hb5 hb2⟩
    case measure=>simp [intOf];omega
  ·obtain rfl:k=l.length:=by omega
   have hff:Hid (Cv l=decide ((l.length:Int)≤16)):=hid (by unfold Cv;rw[hf.out,Cy];simp only[DM,D7,decide_eq_decide];omega);go_wp2;go_ret;exact⟨zK,hb⟩
end Go.Proofs.YtfddhafbhceoaaaGreat
namespace Go.Bs
open Go.RowKit
variable{cs:List Value}{c i n:Nat}{S:Nat → Prop}{a:Option Addr}{w:World}
def Fg:Int→Int→List AU→List UInt8
 | _,_,[]=>[]
 | p,a,m::l=>AV (m.pos-p).toNat++(AV m.count.toNat++(AV (m.at_-a-1).toNat++Fg (m.pos+m.count) m.at_ l))
def Bx(l:List AU):List UInt8:=AV l.length++Fg 0 0 l
theorem IY:∀(l:List AU) (p a:Int),(Fg p a l).length≤30*l.length
 | [],_,_=>by simp[Fg]
 | m::l,p,a=>by
  have h1:=(A3 (m.pos-p).toNat).1;have h2:=(A3 m.count.toNat).1;have h3:=(A3 (m.at_-a-1).toNat).1;have h4:=IY l (m.pos+m.count) m.at_;simp only[Fg,Al,AL];omega
theorem ON(p a:Int)(l:List AU)(k:Nat)(h:k<l.length):Fg p a (l.drop k)=AV (l[k].pos-p).toNat++(AV l[k].count.toNat++(AV (l[k].at_-a-1).toNat++Fg (l[k].pos+l[k].count) l[k].at_ (l.drop (k+1)))):=by
 rw[AD h];rfl
def DX(l:List AU):Int:=(l.map AU.count).sum
theorem Pn(l:List AU)(k:Nat)(h:k<l.length):DX (l.take (k+1))=DX (l.take k)+l[k].count:=by
 rw[AR h];simp only[DX,Cs,List.sum_append,DA,List.map_nil,List.sum_cons,List.sum_nil];omega
theorem Ig:∀(l:List AU) (p a:Int),DM p a l=true→∀m∈l,1≤m.count∧m.count≤16∧m.pos+m.count≤4611686018427387904
 | [],_,_,_,m,hm=>by cases hm
 | x::l,p,a,h,m,hm=>by
  simp only[DM,Aq] at h;rcases List.mem_cons.1 hm with rfl | hm
  ·obtain⟨h1,h2,_,_,h5,_⟩:=DV h.1
   exact⟨h1,h2,h5⟩
  ·exact Ig l _ _ h.2 m hm
theorem Su(l:List AU)(h:∀m∈l,1≤m.count∧m.count≤16):(l.length:Int)≤DX l∧DX l≤16*l.length:=by
 induction l with
 | nil=>simp [DX]
 | cons m l ih=>
  have h1:=h m (List.mem_cons_self ..);have h2:=ih fun x hx=>h x (List.mem_cons_of_mem _ hx);simp only[DX,DA,List.sum_cons,AL] at h2 ⊢;omega
end Go.Bs
namespace Go.Proofs.YtfddhafbhceoaaaGreat
open Go.RowKit Go.Bs Go.Maps
variable{m:Int}{B D J:List UInt8}{xs:List Value}{L base c c1 g n o p sz:Nat}{S:Nat → Prop}{a a1:Option Addr}{s:Rs}{e:TypeId}{v v1 v2:Value}{W W' w w1:World}
theorem F9(w:World){g base most:Nat}{J:List UInt8}{a:Option Addr}(h:Bn w g base most J a c)(x:Int)(hx:0≤x∧x≤18446744073709551615)(hfit:J.length+(AV x.toNat).length≤most)(hlen:J.length+(AV x.toNat).length≤100000000000000):
  Calls Tryz.prog 163 #[.pointer (some ⟨g,0,none⟩),.int .u64 x] w fun r w'=>r=.returned (.tuple #[])∧Az w g base most (J++AV x.toNat) a w':=by
 have:=Cl w h x.toNat zD hfit hlen;rw[Int.toNat_of_nonneg hx.1] at this;exact this
theorem Az.at{most:Nat}(h:Az w1 g base most J a w):∃a' c',Bn w g base most J a' c'∧(∀(J':List UInt8) (w':World),Az w g base most J' a' w'→Az w1 g base most J' a w'):=by
 obtain⟨a',c',h1,h2,h3⟩:=h;exact⟨a',c',h1,fun J' w' k=>Az.trans (J:=J) h2 h3 k⟩
theorem Az.blk{most:Nat}(h:Az w1 g base most J a w){b:Nat}{t:TypeId}{cs:Array Value}(hB:Blk w1 b t cs)(hn:¬C5 g a b):Blk w b t cs:=by
 obtain⟨a',c',h1,h2,h3⟩:=h;exact hB.tch h2 hn
theorem Az.tch{most:Nat}(h:Az w1 g base most J a w):Tch (C5 g a) w1 w:=by
 obtain⟨a',c',h1,h2,h3⟩:=h;exact h2
theorem Sd(w:World){g base most:Nat}{J:List UInt8}{a:Option Addr}(h:Bn w g base most J a c)(l:List AU)(al:Option Addr)(nl cl:Nat)
 (hl:Bk.r (fun q=>q<w.heap.size∧¬C5 g a q) w [.slice al nl cl] l) (hR:Cv l=true) (hfit:J.length+(Bx l).length≤most) (hlen:J.length+(Bx l).length≤100000000000000):
  Calls Tryz.prog 223 #[.pointer (some ⟨g,0,none⟩),.slice al nl cl] w fun r w'=>r=.returned (.tuple #[])∧Az w g base most (J++Bx l) a w':=by
 obtain⟨rfl,hm,_,_⟩:=AH hl;have HR:=hid (Hk l al _ cl w (Bk.mono hl fun q hq=>hq.1));rw[hR] at HR;simp only[Cv,Aq,Ar] at hR;have hix:Hid (Bx l=AV l.length++Fg 0 0 l):=hid rfl;have HLN:Hid (∀D E:List UInt8,Bx l=D++E→J.length+D.length+E.length≤most∧J.length+D.length+E.length≤100000000000000):=hid fun D E e=>by rw[e,Al] at hfit hlen;omega
 have HV:=hid (fun (W:World) (hW:Below w.heap.size w W)=>by
  have h0:=HLN.out _ _ hix.out;exact Cl W (h.later hW) l.length zD zD zD)
 have HL:=hid hl;have HRI:=hid hR.1;have HP:=hid h;have hl16:=hR.2;clear h hl hR hfit hlen;go_enter Tryz.func223,Tryz.ntmps223;go_wp2_with fail;refine HR.out.mono ?_;rintro r w1 ⟨rfl,hb1⟩;go_wp2_with fail;refine (HV.out _ hb1).mono ?_;rintro r w2 ⟨rfl,hs2⟩;have HS2:=hid (Az.later hb1 hs2);clear hs2;go_wp2_with fail;go_loopw [4,5,20] (fun p at_ i wr=>∃(k:Nat) (pp aa:Int) (D:List UInt8),k≤l.length∧i=.int .i64 k∧p=.int .u64 pp∧at_=.int .i64 aa∧0≤pp∧0≤aa∧Hid (DM pp aa (l.drop k)=true)∧Hid (Bx l=D++Fg pp aa (l.drop k))∧Hid (Az w g base most (J++D) a wr)) (fun _ _ i _=>l.length-(intOf i).toNat)
 case atStart=>exact ⟨0,0,0,_,At _,rfl,rfl,rfl,zD,zD,HRI,hix,HS2⟩
 case round=>
  obtain⟨k,pp,aa,D,hk,rfl,rfl,rfl,hp0,ha0,hri,hD,HST⟩:=hrel;by_cases hlt:k<l.length
  ·have hrT:=HST.out.tch
   have hsz:=hrT.size;obtain⟨b,o,hA,hbb,x0,x1,x2,hN⟩:=GM (Bk.keep HL.out fun q hq=>hrT.block q hq.1 hq.2) hlt;subst hA;have hst:=Lz pp aa l k hlt;have hms:=hid (ON pp aa l k hlt);rw[hri.out] at hst;generalize l[k]=m at*;simp only[eq_comm (a:=true),Aq] at hst;obtain⟨g1,g2,g3,g4,g5,g6,g7⟩:=DV hst.1;have HRI2:=hid hst.2;clear hst;have i1:(k:Int)<(l.length:Int):=zD;have i2:=hbb.1;have hN1:=hN.p;obtain⟨a3,c3,p3,k3⟩:=HST.out.at;have K3:=hid k3;have hno:¬C5 g a3 wr.heap.size:=fun hf=>by
    rw[Fk] at hf;rcases hf with e | e
    ·have:=p3.blk.lt;omega
    ·have:=(p3.Bo (Fk.2 (.inr e))).2;omega
   have P3:=hid p3;have HNO:=hid hno;have hlen:=HLN.out _ _ (hD.out.trans (Bc (D++ ·) hms.out));simp only[Al] at hlen;clear k3 p3 hno hrT;go_wp2_with fail;have hW:Below wr.heap.size wr (wr.alloc (.cells #[.int .u64 m.pos,.int .i64 m.count,.int .i64 m.at_] 88)):=zB;have hBX:=Blk.new wr 88 #[.int .u64 m.pos,.int .i64 m.count,.int .i64 m.at_];generalize wr.alloc (.cells #[.int .u64 m.pos,.int .i64 m.count,.int .i64 m.at_] 88)=W1 at*;have HBX:=hid hBX;refine (F9 W1 (P3.out.later hW) (m.pos-pp) zD zR zR).mono ?_;rintro r w4 ⟨rfl,hs4⟩;have HW:=hid hW;have B4:=hs4.blk HBX.out HNO.out;have HS4:=hid hs4;have y1:w4.cell? ⟨wr.heap.size,1,none⟩=some (.int .i64 m.count):=B4.cell 1;have e1:m.count%18446744073709551616=m.count:=zD;clear hs4 B4 hW hBX;go_wp2_with fail;obtain⟨a4,c4,p4,k4⟩:=HS4.out.at;refine (F9 w4 p4 m.count zD zR zR).mono ?_;rintro r w5 ⟨rfl,hs5⟩;have hs5:=k4 _ _ hs5;have B5:=hs5.blk HBX.out HNO.out;have HS5:=hid hs5;have y2:w5.cell? ⟨wr.heap.size,2,none⟩=some (.int .i64 m.at_):=B5.cell 2;have e2:(m.at_-aa-1)%18446744073709551616=m.at_-aa-1:=zD;clear hs5 B5 p4 k4 y1;go_wp2_with fail;obtain⟨a5,c5,p5,k5⟩:=HS5.out.at;refine (F9 w5 p5 (m.at_-aa-1) zD zR zR).mono ?_;rintro r w6 ⟨rfl,hs6⟩;have hs6:=k5 _ _ hs6;have hbox:=hs6.blk HBX.out HNO.out;have HS6:=hid (K3.out _ _ (Az.later HW.out hs6));have HE:=hid (fun s:AE w6=>Ew m hN.p.1 ⟨zD,zD⟩ zD s.at_);have Y0:=fun s:AE w6=>s.cell (hbox.cell 0);have Y1:=fun s:AE w6=>s.cell (hbox.cell 1);have Y2:=fun s:AE w6=>s.cell (hbox.cell 2);simp at Y0 Y1 Y2;have hx0:0≤m.pos+m.count:=zD;have hx1:0≤m.at_:=zD;clear hs6 hbox p5 k5 y2 e2 e1 hlen hN;go_wp2_with fail;refine Ax zJ zJ ?_;repeat (go_big_quiet_step ((go_at_call 283;exact A9 (HE.out _))))
   refine AI ?_;rintro W5 ⟨⟨W5',hb5⟩,rfl⟩;go_wp2;have hst7:=HS6.out.at;obtain⟨a7,c7,p7,k7⟩:=hst7;have HS7:=hid (k7 _ _ (Az.refl (p7.later hb5) |>fun h=>Az.later hb5 h));go_roundw
   case rel=>exact ⟨k+1,_,_,D++(AV (m.pos-pp).toNat++(AV m.count.toNat++AV (m.at_-aa-1).toNat)),zD,zT,rfl,rfl,hx0,hx1,HRI2,hid (by rw[hD.out,hms.out];simp),by simpa using HS7⟩
   case measure=>simp [intOf];omega
  ·obtain rfl:k=l.length:=by omega
   have hff:Hid (Bx l=D):=hid (by rw[hD.out,Cy];simp[Fg]);go_wp2;first | go_end0 | refine An (AO rfl _ _ _) rfl ?_
   exact⟨rfl,by rw[hff.out];exact HST.out⟩
end Go.Proofs.YtfddhafbhceoaaaGreat
namespace Go.Bs
open Go.RowKit
variable{cs:List Value}{c i n:Nat}{S:Nat → Prop}{a:Option Addr}{w:World}
def Fi(l:List AU):Int × Int:=match l.head?,l.getLast? with
 | some a,some b=>(a.pos,b.pos+b.count)
 | _,_=>(0,0)
theorem I7{l:List AU}(h:0<l.length):Fi l=(l[0].pos,(l[l.length-1]'zD).pos+(l[l.length-1]'zD).count):=by
 unfold Fi;rw[List.head?_eq_getElem?,List.getLast?_eq_getElem?,AM h,AM zD]
end Go.Bs
namespace Go.Proofs.YtfddhafbhceoaaaGreat
open Go.RowKit Go.Bs Go.Maps
variable{m:Int}{B D J:List UInt8}{xs:List Value}{L base c c1 g n o p sz:Nat}{S:Nat → Prop}{a a1:Option Addr}{s:Rs}{e:TypeId}{v v1 v2:Value}{W W' w w1:World}
theorem KD(w:World)(l:List AU)(al:Option Addr)(nl cl:Nat)(hl:Bk.r (·<w.heap.size) w [.slice al nl cl] l)(hR:Cv l=true):
  Calls Tryz.prog 148 #[.slice al nl cl] w fun r w'=>∃x,r=.returned (.tuple #[x,.int .i64 0])∧Ag.r (fun q=>w.heap.size≤q∧q<w'.heap.size) w' [x] (Bx l)∧Below w.heap.size w w':=by
 obtain⟨rfl,_,_,_⟩:=AH hl;have hlb:(Bx l).length≤1024:=by
  have h1:=(A3 l.length).1;have h2:=IY l 0 0;have h3:=hR;simp only[Cv,Aq,Ar] at h3;simp only[Bx,Al];omega
 have HN:=hid (fun W:World=>EV W 1024 zD);have HP:=hid (fun (W:World) (g:Nat) (h:Bn W g g 1024 [] none 0) (h1:Bk.r (fun q=>q<W.heap.size∧¬C5 g none q) W [.slice al l.length cl] l)=>Sd W h l al _ cl h1 hR (by simpa using hlb) zI);have HD:=hid hl;generalize Bx l=K at*;clear hl hR;go_enter Tryz.func148,Tryz.ntmps148;go_wp2_with fail;refine (HN.out w).mono ?_;rintro r w2 ⟨rfl,hp2,hb2⟩;have hz2:=hb2.size;have HQ:=hid (HP.out w2 _ hp2 (Bk.mono (Bk.keep HD.out fun q hq=>hb2.block q hq) fun q hq=>⟨zD,by rw[Fk];rintro (e | e);omega;cases e⟩));clear hp2;go_wp2_with fail;refine HQ.out.mono ?_;rintro r w3 ⟨rfl,hs3⟩;have K3:Hid (DE w2 w.heap.size 1024 K w3):=hid hs3;clear hs3 HQ;go_wp2_with fail;obtain⟨a7,b7,p7,k7,_⟩:=K3.out.at;refine (Es w3 p7).mono ?_;rintro r w8 ⟨x,rfl,hr,hb8⟩;have hbw:=K3.out.below hb2 zD;have HR:=hid hr;clear hr k7 p7;go_wp2;go_ret2
 exact⟨_,rfl,Ag.mono HR.out fun q hq=>⟨ZI,hq.2⟩,Af hb8 hbw⟩
theorem MB(w:World)(l:List AU)(al:Option Addr)(nl cl:Nat)(hl:Bk.r (·<w.heap.size) w [.slice al nl cl] l)(hR:Cv l=true):
  Calls Tryz.prog 224 #[.slice al nl cl] w fun r w'=>r=.returned (.int .i64 (DX l))∧Below w.heap.size w w':=by
 obtain⟨rfl,hm,_,_⟩:=AH hl;have HR:=hid (Hk l al _ cl w hl);rw[hR] at HR;simp only[Cv,Aq,Ar] at hR;have HM:=hid (fun m hm=>Ig l 0 0 hR.1 m hm);have HL:=hid hl;have h16:=hR.2;clear hl hR;go_enter Tryz.func224,Tryz.ntmps224;go_wp2_with fail;refine HR.out.mono ?_;rintro r w1 ⟨rfl,hb1⟩;go_wp2_with fail;go_loopw [3,11] (fun n i wr=>∃(k:Nat) (s:Int),k≤l.length∧i=.int .i64 k∧n=.int .i64 s∧Hid (DX (l.take k)=s)∧0≤s∧s≤16*k∧Below w.heap.size w wr) (fun _ i _=>l.length-(intOf i).toNat)
 case atStart=>exact ⟨0,0,At _,rfl,rfl,hid rfl,zD,zD,hb1⟩
 case round=>
  obtain⟨k,s,hk,rfl,rfl,hf,hs0,hs1,hb⟩:=hrel;by_cases hlt:k<l.length
  ·obtain⟨b,o,hA,hbb,x0,x1,x2,hN⟩:=GM (lift HL.out hb) hlt
   subst hA;have hst:=hid (Pn l k hlt);obtain⟨g1,g2,_⟩:=HM.out _ (AT hlt);generalize l[k]=m at*;have i1:(k:Int)<(l.length:Int):=zD;go_wp2;go_roundw
   case rel=>exact ⟨k+1,_,zD,zT,rfl,hid (by rw[hst.out,hf.out]),zD,zD,zB⟩
   case measure=>simp [intOf];omega
  ·obtain rfl:k=l.length:=by omega
   have hff:Hid (DX l=s):=hid (by rw[←hf.out,BW]);go_wp2;go_ret;exact⟨zK,hb⟩
theorem Qw(w:World)(l:List AU)(al:Option Addr)(nl cl:Nat)(hl:Bk.r (·<w.heap.size) w [.slice al nl cl] l)(hR:Cv l=true):
  Calls Tryz.prog 225 #[.slice al nl cl] w fun r w'=>r=.returned (.tuple #[.int .u64 (Fi l).1,.int .u64 (Fi l).2])∧Below w.heap.size w w':=by
 obtain⟨rfl,hm,_,_⟩:=AH hl;rcases CZ l.length with h0 | h0
 ·obtain rfl:=AS h0
  clear hl h0;go_enter Tryz.func225,Tryz.ntmps225;go_wp2;go_ret2
  exact⟨rfl,zB⟩
 ·have HR:=hid (Hk l al _ cl w hl)
  rw[hR] at HR;simp only[Cv,Aq,Ar] at hR;have HL:=hid hl;have hen:=hid (I7 h0);obtain⟨b,o,hA,hbb,x0,_,_,hN⟩:=GM hl h0;obtain⟨b2,o2,hA2,hbb2,z0,z1,z2,hN2⟩:=GM (i:=l.length-1) hl zD;subst hA;simp only[Bh,Ic,AF] at hA2;obtain⟨rfl,rfl⟩:=hA2;obtain⟨g1,g2,g3⟩:=Ig l 0 0 hR.1 _ (AT (show l.length-1<l.length by omega));generalize l[0]=m0 at*;generalize l[l.length-1]=m1 at*;simp only[Nat.zero_mul,CR] at x0;obtain⟨n,hn⟩:∃n,l.length=n+1:=⟨l.length-1,zD⟩;generalize Fi l=E at*;clear hl hR hbb2 HL;generalize l.length=L at*;subst hn;simp only[Nat.add_sub_cancel] at z0 z1 z2;have hE:=hen.out;subst hE;dsimp only;have d0:(((n+1:Nat):Int)==0)=false:=beq_eq_false_iff_ne.2 zD;have d1:((n+1:Nat):Int)=(n:Int)+1:=zD;rw[d1] at d0;have hw:wrap64 (n:Int)=n:=by
   unfold wrap64;omega
  have i1:(n:Int)<(n:Int)+1:=zD;have i0:(0:Int)<(n:Int)+1:=zD;clear hen;go_enter Tryz.func225,Tryz.ntmps225;go_wp2_with fail;refine HR.out.mono ?_;rintro r w1 ⟨rfl,hb1⟩;have HE:=hid (fun s:AE w1=>Ew m1 hN2.p.1 ⟨zD,zD⟩ zD s.at_);have Y0:=fun s:AE w1=>s.cell ((hb1.cell (p:=⟨b,o,none⟩) hbb).trans x0);have Y1:=fun s:AE w1=>s.cell ((hb1.cell (p:=⟨b,o+n*3,none⟩) hbb).trans z0);have Y2:=fun s:AE w1=>s.cell ((hb1.cell (p:=⟨b,o+n*3+1,none⟩) hbb).trans z1);have Y3:=fun s:AE w1=>s.cell ((hb1.cell (p:=⟨b,o+n*3+2,none⟩) hbb).trans z2);go_wp2_with fail;refine Ax zJ zJ ?_;repeat (go_big_quiet_step ((go_at_call 283;exact A9 (HE.out _))))
  refine AI ?_;rintro W5 ⟨⟨W5',hb5⟩,rfl⟩;go_wp2;go_ret2
  exact⟨rfl,Af hb5 hb1⟩
end Go.Proofs.YtfddhafbhceoaaaGreat
namespace Go.Bs
open Go.RowKit
variable{cs:List Value}{c i n:Nat}{S:Nat → Prop}{a:Option Addr}{w:World}
structure Cj where
 ep:Int
 n:Int
 en:Int
 first:Int
 fin:Int
 at_:Int
 size:Int
def Cj.val(f:Cj):Array Value:=#[.int .u64 f.ep,.int .i64 f.n,.int .i64 f.en,.int .u64 f.first,.int .u64 f.fin,.int .i64 f.at_,.int .i64 f.size]
structure Ia(f:Cj):Prop where
 ep:epR f.ep=true
 n0:0≤f.n
 n1:f.n≤16
 en0:f.n≤f.en
 en1:f.en≤f.n*16
 at0:1≤f.at_
 at1:f.at_≤1099511627775
 sz0:1≤f.size
 sz1:f.size≤2097152
 sp:if f.n=0 then f.first=0∧f.fin=0 else 0≤f.first∧f.first<f.fin∧f.fin≤4611686018427387904∧f.en≤f.fin-f.first
def Cj.Gx(f:Cj):List Int:=[f.n,f.en,f.first,f.fin,f.at_,f.size]
theorem Ia.Gx{f:Cj}(h:Ia f):∀x∈f.Gx,0≤x∧x≤18446744073709551615:=by
 obtain⟨_,h1,h2,h3,h4,h5,h6,h7,h8,h9⟩:=h;intro x hx;simp only[Cj.Gx,List.mem_cons,List.not_mem_nil,or_false] at hx;split at h9<;>rcases hx with rfl | rfl | rfl | rfl | rfl | rfl<;>omega
end Go.Bs
namespace Go.Proofs.YtfddhafbhceoaaaGreat
open Go.RowKit Go.Bs Go.Maps
variable{m:Int}{B D J:List UInt8}{xs:List Value}{L base c c1 g n o p sz:Nat}{S:Nat → Prop}{a a1:Option Addr}{s:Rs}{e:TypeId}{v v1 v2:Value}{W W' w w1:World}
def Eg(f:Cj):List UInt8:=[3]++AV f.ep.toNat++CG f.Gx
theorem Ik(f:Cj):(Eg f).length≤71:=by
 have h1:=(A3 f.ep.toNat).1;have h2:=Gw f.Gx;simp only[Eg,Al,AL,By,Cj.Gx] at h2 ⊢;omega
theorem NV(f:Cj)(hR:Ia f)(w:World):
  Calls Tryz.prog 327 #[.agg f.val] w fun r w'=>r=.returned (.bool true)∧Below w.heap.size w w':=by
 obtain⟨_,h1,h2,h3,h4,h5,h6,h7,h8,h9⟩:=hR;obtain⟨ep,n,en,fi,fe,a,s⟩:=f;dsimp only[Cj.val] at*;by_cases h0:n=0
 ·subst h0
  rw[Ai rfl] at h9;obtain⟨rfl,rfl⟩:=h9;clear h1 h2 h3 h4 h5 h6 h7 h8;go_enter GW,F6;go_wp2;go_ret;exact⟨rfl,zB⟩
 ·rw[Ah h0] at h9
  have d0:(n==0)=false:=beq_eq_false_iff_ne.2 h0;have d1:decide (fi<fe)=true:=Ad zD;have d2:decide (fe≤4611686018427387904)=true:=Ad zD;have d3:decide (en≤fe-fi)=true:=Ad zD;have e1:en%18446744073709551616=en:=zD;have e2:0≤fe-fi∧fe-fi≤18446744073709551615:=zD;go_enter GW,F6;go_wp2;go_ret;exact⟨rfl,zB⟩
theorem NW(f:Cj)(hR:Ia f)(w:World):
  Calls Tryz.prog 265 #[.agg f.val] w fun r w'=>r=.returned (.bool true)∧Below w.heap.size w w':=by
 have HS:=hid (fun W:World=>NV f hR W);obtain⟨h0,h1,h2,h3,h4,h5,h6,h7,h8,_⟩:=hR;obtain⟨ep,n,en,fi,fe,a,s⟩:=f;dsimp only[Cj.val] at*;have HE:=hid (DW ep);rw[h0] at HE;have d1:decide (0≤n)=true:=Ad h1;have d2:decide (n≤16)=true:=Ad h2;have d3:decide (n≤en)=true:=Ad h3;have d4:decide (en≤n*16)=true:=Ad h4;have d5:decide (1≤a)=true:=Ad h5;have d6:decide (a≤1099511627775)=true:=Ad h6;have d7:decide (1≤s)=true:=Ad h7;have d8:decide (s≤2097152)=true:=Ad h8;clear h0;go_enter Tryz.func265,Tryz.ntmps265;go_wp2_with fail;refine (HE.out _).mono ?_;rintro r w1 ⟨rfl,rfl⟩;go_wp2_with fail;refine (HS.out _).mono ?_;rintro r w1 ⟨rfl,hb1⟩;go_wp2;go_ret;exact⟨rfl,zB⟩
theorem L2(f:Cj)(hR:Ia f)(w:World):
  Calls Tryz.prog 226 #[.agg f.val] w fun r w'=>∃x,r=.returned (.tuple #[x,.int .i64 0])∧Ag.r (fun q=>w.heap.size≤q∧q<w'.heap.size) w' [x] (Eg f)∧Below w.heap.size w w':=by
 have HRT:=hid (fun W:World=>NW f hR W);have HNB:=hid hR.Gx;have hpl:=Ik f;have hpe:Hid (Eg f=[3]++AV f.ep.toNat++CG f.Gx):=hid rfl;have hep:=hR.ep;have hep':=hep;simp only[epR,Ar] at hep';obtain⟨_,h1,h2,h3,h4,h5,h6,h7,h8,_⟩:=hR;have hvl:=(A3 f.ep.toNat).1;have hnl:Hid (f.Gx.length=6):=hid rfl;have hcs:Hid ((CA f.Gx).toArray=#[.int .u64 f.n,.int .u64 f.en,.int .u64 f.first,.int .u64 f.fin,.int .u64 f.at_,.int .u64 f.size]):=hid rfl;have hst:=hid (fun k h=>GK f.Gx k h);have hle:Hid (∀k (h:k<f.Gx.length),(CG (f.Gx.take k)).length+(AV (f.Gx[k]'h).toNat).length≤60):=hid fun k h=>by
  have e:=Bc List.length (GK f.Gx k h);have e2:=Gw (f.Gx.take (k+1));rw[Al] at e;have e3:(f.Gx.take (k+1)).length≤6:=by rw[List.length_take];simp[Cj.Gx];omega
  omega
 generalize Eg f=K at*;generalize f.Gx=xs at*;obtain⟨ep,n,en,fi,fe,at_,s⟩:=f;dsimp only[Cj.val] at*;have e1:n%18446744073709551616=n:=zD;have e2:en%18446744073709551616=en:=zD;have e3:at_%18446744073709551616=at_:=zD;have e4:s%18446744073709551616=s:=zD;have HN:=hid (fun W:World=>EV W 80 zD);go_enter Tryz.func226,Tryz.ntmps226;go_wp2_with fail;refine (HN.out _).mono ?_;rintro r w2 ⟨rfl,hp2,hb2⟩;have hbox:=(Blk.new w 81 #[.int .u64 ep,.int .i64 n,.int .i64 en,.int .u64 fi,.int .u64 fe,.int .i64 at_,.int .i64 s]).later hb2;have hbw2:Below w.heap.size w w2:=zB;have c0:w2.cell? ⟨w.heap.size,0,none⟩=some (.int .u64 ep):=hbox.cell 0;have c1:w2.cell? ⟨w.heap.size,1,none⟩=some (.int .i64 n):=hbox.cell 1;have c2:w2.cell? ⟨w.heap.size,2,none⟩=some (.int .i64 en):=hbox.cell 2;have c3:w2.cell? ⟨w.heap.size,3,none⟩=some (.int .u64 fi):=hbox.cell 3;have c4:w2.cell? ⟨w.heap.size,4,none⟩=some (.int .u64 fe):=hbox.cell 4;have c5:w2.cell? ⟨w.heap.size,5,none⟩=some (.int .i64 at_):=hbox.cell 5;have c6:w2.cell? ⟨w.heap.size,6,none⟩=some (.int .i64 s):=hbox.cell 6;have HBX:=hid hbox;have HBW2:=hid hbw2;have K2:=hid (DE.new hp2);generalize hg:(w.alloc (.cells #[.int .u64 ep,.int .i64 n,.int .i64 en,.int .u64 fi,.int .u64 fe,.int .i64 at_,.int .i64 s] 81)).heap.size=g at*;have hgw:w.heap.size<g:=by rw[←hg];simp
 have hg2:g≤w2.heap.size:=by rw[←hg];exact hb2.size
 clear hbox hbw2 hp2 hb2 hg;go_wp2_with fail;refine (HRT.out _).mono ?_;rintro r w3 ⟨rfl,hb3⟩;have K3:=hid (K2.out.later hb3);clear c0 c1 c2 c3 c4 c5 c6;go_wp2_with fail;obtain⟨a3,b3,p3,k3,_⟩:=K3.out.at;have hW:Below w3.heap.size w3 (w3.alloc (.cells #[.int .u8 3] 5)):=zB;have hlit:=OQ w3 3 zD;simp only[Int.cast_ofNat_Int] at hlit;generalize w3.alloc (.cells #[.int .u8 3] 5)=W3 at*;refine (Ej W3 (p3.later hW) [3] _ 1 1 hlit zQ zQ).mono ?_;rintro r w4 ⟨rfl,hs4⟩;have K4:=hid (k3 (Az.later hW hs4));have q4:=K4.out.blk HBX.out zD;have c0:w4.cell? ⟨w.heap.size,0,none⟩=some (.int .u64 ep):=q4.cell 0;clear k3 hs4 hW hlit p3 q4;go_wp2_with fail;obtain⟨a4,b4,p4,k4,_⟩:=K4.out.at;have HEP:Hid (ep=(ep.toNat:Int)):=hid zD;refine ((by have:=Kd w4 p4 ep.toNat (by rw[←HEP.out];exact hep) zI zI;rw[←HEP.out] at this;exact this:Calls Tryz.prog 162 #[.pointer (some ⟨g,0,none⟩),.int .u64 ep] w4 fun r w'=>r=.returned (.tuple #[])∧Az w4 g g 80 (([]++[3])++AV ep.toNat) a4 w')).mono ?_;rintro r w5 ⟨rfl,hs5⟩;have K5:=hid (k4 hs5);have q5:=K5.out.blk HBX.out zD;have c1:w5.cell? ⟨w.heap.size,1,none⟩=some (.int .i64 n):=q5.cell 1;have c2:w5.cell? ⟨w.heap.size,2,none⟩=some (.int .i64 en):=q5.cell 2;have c3:w5.cell? ⟨w.heap.size,3,none⟩=some (.int .u64 fi):=q5.cell 3;have c4:w5.cell? ⟨w.heap.size,4,none⟩=some (.int .u64 fe):=q5.cell 4;have c5:w5.cell? ⟨w.heap.size,5,none⟩=some (.int .i64 at_):=q5.cell 5;have c6:w5.cell? ⟨w.heap.size,6,none⟩=some (.int .i64 s):=q5.cell 6;clear k4 hs5 p4 q5 c0;go_wp2_with fail;refine Dm (fun W=>Below w5.heap.size w5 W∧Blk W w5.heap.size 36 (CA xs).toArray) ⟨zB,by rw[hcs.out];exact Blk.new _ _ _⟩ ?_;rintro W ⟨hW,hB⟩;obtain⟨a5,b5,p5,k5,_⟩:=K5.out.at;have HW:=hid hW;have HB:=hid hB;have HNO:Hid (¬C5 g a5 w5.heap.size):=hid fun hf=>by have:=(p5.Bo hf).2;omega
 have HK5:=hid (fun (J':List UInt8) (w':World) (h:Az W g g 80 J' a5 w')=>k5 (Az.later hW h));have HP5:=hid (p5.later hW);clear c1 c2 c3 c4 c5 c6 k5 hW hB p5;go_loopw [38] (fun i wr=>∃k:Nat,k≤6∧i=.int .i64 k∧Hid (Az W g g 80 (([]++[3])++AV ep.toNat++CG (xs.take k)) a5 wr)) (fun i _=>6-(intOf i).toNat)
 case atStart=>exact ⟨0,At _,rfl,hid (by simpa [CG] using Az.refl HP5.out)⟩
 case round=>
  obtain⟨k,hk,rfl,HST⟩:=hrel;by_cases hlt:k<6
  ·have hkx:k<xs.length:=by rw[hnl.out];exact hlt
   have x0:wr.cell? ⟨w5.heap.size,k,none⟩=some (.int .u64 xs[k]):=by
    refine ((HST.out.blk HB.out HNO.out).cell k).trans ?_;simp[CA,hkx]
   have HS:=hid (hst.out k hkx);have hl:=hle.out k hkx;have hb:=HNB.out _ (AT hkx);generalize xs[k]=x at*;have i1:(k:Int)<6:=zD;obtain⟨a7,b7,p7,k7⟩:=HST.out.at;have HV:=hid (F9 wr p7 x hb zI zI);have HK7:=hid k7;clear p7 k7;go_wp2_with fail;refine HV.out.mono ?_;rintro r w7 ⟨rfl,hs7⟩;have HS7:=hid (HK7.out _ _ hs7);clear hs7;go_wp2;go_roundw
   case rel=>exact ⟨k+1,zD,zT,hid (by rw[HS.out];have:=HS7.out;rw[AB] at this;exact this)⟩
   case measure=>simp [intOf];omega
  ·obtain rfl:k=6:=by omega
   have K6:Hid (DE w2 g 80 K wr):=hid (by
    have h:=HK5.out _ _ HST.out;rw[Fu (by rw[hnl.out];omega),A8,←hpe.out] at h;exact h)
   go_wp2_with fail;obtain⟨a7,b7,p7,k7,_⟩:=K6.out.at;refine (Es wr p7).mono ?_;rintro r w8 ⟨x,rfl,hr,hb8⟩;have hbw:=K6.out.below HBW2.out zD;have HR:=hid hr;clear hr k7 p7;go_wp2;go_ret2
   exact⟨_,rfl,Ag.mono HR.out fun q hq=>⟨ZI,hq.2⟩,Af hb8 hbw⟩
def DR(n:Nat):List UInt8:=Ci 4 n++(Ci 4 (B8 (Ci 4 n))++[76,79,72,84])
theorem IJ(n:Nat):(DR n).length=12:=by simp[DR,Dz]
def Fh(f:Cj):List UInt8:=Ck (Eg f)++DR (Ck (Eg f)).length
theorem KH(w:World):Calls Tryz.prog 156 #[] w fun r w'=>r=.returned (.int .i64 12)∧w=w':=by
 go_enter Tryz.func156,Tryz.ntmps156;go_wp2;go_ret;exact⟨rfl,rfl⟩
theorem Ho(n:Nat)(hn:n<18446744073709551616)(w:World):
  Calls Tryz.prog 202 #[.int .i64 n] w fun r w'=>∃x,r=.returned x∧Ag.r (fun q=>w.heap.size≤q∧q<w'.heap.size) w' [x] (DR n)∧Below w.heap.size w w':=by
 have hff:Hid (DR n=([]++Ci 4 n)++Ci 4 (B8 (Ci 4 n))++[76,79,72,84]):=hid (by simp[DR]);have HF:=hid (fun W:World=>MU n hn 4 zD W);have hfl:=Dz 4 n;have HC:=hid (fun (W:World) (a:Option Addr) (n' c:Nat) h=>JO (Ci 4 n) a n' c W h);have HL:=FA (Ci 4 n);have HN:=hid (fun W:World=>EV W 12 zD);have e1:(n:Int)%18446744073709551616=n:=zD;generalize DR n=K at*;generalize B8 (Ci 4 n)=s at*;generalize Ci 4 n=D at*;go_enter Tryz.func202,Tryz.ntmps202;go_wp2_with fail;refine (KH _).mono ?_;rintro r w1 ⟨rfl,rfl⟩;go_wp2_with fail;refine (HN.out w).mono ?_;rintro r w2 ⟨rfl,hp2,hb2⟩;have HP2:=hid hp2;have hz2:=hp2.blk.lt;clear hp2;go_wp2_with fail;refine (HF.out _).mono ?_;rintro r w3 ⟨v,rfl,ho,hb3⟩;obtain⟨a,c,rfl⟩:=AX ho;have hr:=Cg (l:=D) hfl.symm ho;have HR:=hid hr;have hbw3:=hid (Af hb3 hb2);have HP3:=hid (HP2.out.later hb3);clear ho hr;go_wp2_with fail;refine (Ej w3 HP3.out D a _ c (Ag.mono (S':=(·<w3.heap.size)) HR.out fun q hq=>hq.2) zI zI).mono ?_;rintro r w4 ⟨rfl,hs4⟩;have K4:Hid (DE w3 w.heap.size 12 ([]++D) w4):=hid hs4;have ht4:=K4.out.tch;have hs4':=ht4.size;have HR4:=hid (Ag.mono (S':=(·<w4.heap.size)) (Ag.keep HR.out fun q hq=>ht4.block q hq.2 zD) fun q hq=>zD);clear hs4 ht4;go_wp2_with fail;refine (HC.out w4 a _ c HR4.out).mono ?_;rintro r w5 ⟨rfl,hb5⟩;have K5:=hid (K4.out.later hb5);have e2:(s:Int)%18446744073709551616=s:=zD;go_wp2_with fail;obtain⟨a5,b5,p5,k5,_⟩:=K5.out.at;refine (IV w5 p5 s zD 4 zD zI zI).mono ?_;rintro r w6 ⟨rfl,hs6⟩;have K6:=hid (k5 hs6);have hl6:=Dz 4 s;clear hs6 k5 p5;go_wp2_with fail;obtain⟨a6,b6,p6,k6,_⟩:=K6.out.at;refine (OJ w6 p6 ⟨#[76,79,72,84]⟩ zO [76,79,72,84] rfl zI zI).mono ?_;rintro r w7 ⟨rfl,hs7⟩;have k7:=k6 hs7;rw[←hff.out] at k7;have K7:=hid k7;clear hs7 k6 p6 k7;go_wp2_with fail;obtain⟨a7,b7,p7,k7,_⟩:=K7.out.at;refine (Es w7 p7).mono ?_;rintro r w8 ⟨x,rfl,hr,hb8⟩;have hbw:=K7.out.below hbw3.out (Ap _);have HRR:=hid hr;clear hr k7 p7;go_wp2;go_ret;exact⟨_,rfl,Ag.mono HRR.out fun q hq=>⟨ZI,hq.2⟩,Af hb8 hbw⟩
theorem JJ(f:Cj)(hR:Ia f)(w:World):
  Calls Tryz.prog 150 #[.agg f.val] w fun r w'=>∃x,r=.returned (.tuple #[x,.int .i64 0])∧DQ w' w.heap.size x (Fh f)∧Below w.heap.size w w':=by
 obtain⟨i0,hi,hz0,hz1,hz2⟩:=A1 Eu;have HP:=hid (fun W:World=>L2 f hR W);have hpl:=Ik f;have hfb:Hid (Fh f=Ck (Eg f)++DR (Ck (Eg f)).length):=hid rfl;have hfl:(Ck (Eg f)).length≤100:=by
  rw[Eo,Ez];have:=(A3 (Eg f).length).1;omega
 have HF:=hid (fun (W:World) (a:Option Addr) (n c:Nat) h=>KG W (Eg f) a n c h zD);have HT:=hid (fun W:World=>Ho (Ck (Eg f)).length zD W);have htl:(DR (Ck (Eg f)).length).length≤12:=by rw[IJ];omega
 generalize Fh f=K at*;generalize DR (Ck (Eg f)).length=T at*;generalize Ck (Eg f)=D at*;generalize Eg f=P at*;have hfv:f.val=Vi:=rfl;rw[hfv];rw[hfv] at HP;clear hfv hR;go_enter Tryz.func150,Tryz.ntmps150;go_wp2_with fail;refine (HP.out _).mono ?_;rintro r w1 ⟨v,rfl,hr,hb1⟩;obtain⟨a1,c1,hv1,hr1,_⟩:=AJ hr;simp only[As,AF] at hv1;subst hv1;have HR:=hid (Ag.mono (S':=(·<w1.heap.size)) hr1 fun q hq=>hq.2);have hbw1:Below w.heap.size w w1:=zB;clear hr hr1;go_wp2_with fail;refine (HF.out w1 a1 _ c1 HR.out).mono ?_;rintro r w2 ⟨v,rfl,ho2,hb2⟩;obtain⟨a2,c2,rfl⟩:=ho2.form;have hbw2:=Af hb2 hbw1;have HO2:=hid ho2;clear ho2;go_wp2_with fail;refine (HT.out w2).mono ?_;rintro r w3 ⟨v,rfl,hr3,hb3⟩;obtain⟨a3,c3,hv3,hr3',_⟩:=AJ hr3;simp only[As,AF] at hv3;subst hv3;have HS:=hid (BH (Ag.mono (S':=(·<w3.heap.size)) hr3' fun q hq=>hq.2));have HO3:Hid (w3.ownsRow w.heap.size 5 1 (.slice a2 D.length c2) D.length (byteCells D)):=hid (Bp (HO2.out.low hbw1.size) hb3);have HONE:=hid (A7 T);have hbw3:=Af hb3 hbw2;have hz3:=hbw3.size;clear hr3 hr3';go_wp2_with (at_builtin;go_loud (refine AA rfl _ _ _ rfl w.heap.size 5 i0 (.int .u8 0) 1 1 AG hi hz0 hz1 hz2 rfl zO (.slice a2 D.length c2) D.length (byteCells D) rfl HO3.out a3 T.length c3 (byteCells T) rfl HS.out HONE.out zN zD zD ?_;intro v' w4 hown4 hgrow4 hat4;have HG:=hid hgrow4;have HO4:=hid hown4;clear hgrow4 hown4 hat4))
 have hB:Below w.heap.size w w4:=Below.grown hbw3 HG.out zD (fun g e=>(HO3.out.lt g e).1);have hO:=DQ.app HO4.out;rw[←hfb.out] at hO;have HO:=hid hO;clear hO;go_wp2;go_ret2
 exact⟨_,rfl,HO.out,hB⟩
def Em(k:UInt8)(D:List UInt8):List UInt8:=Ck (k::D)
theorem IN(k:Nat)(hk:k<256)(D:List UInt8)(a:Option Addr)(n c:Nat)(w:World)(hl:Ag.r (·<w.heap.size) w [.slice a n c] D)(hm:D.length+1≤2097152):
  Calls Tryz.prog 147 #[.int .u8 k,.slice a n c] w fun r w'=>∃x,r=.returned x∧DQ w' w.heap.size x (Em (UInt8.ofNat k) D)∧Below w.heap.size w w':=by
 obtain⟨rfl,hlm,_,_⟩:=AH hl;obtain⟨i0,hi,hz0,hz1,hz2⟩:=A1 Eu;have HF:=hid (fun (W:World) (a:Option Addr) (n c:Nat) h=>KG W (UInt8.ofNat k::D) a n c h zI);have hrb:Hid (Em (UInt8.ofNat k) D=Ck (UInt8.ofNat k::D)):=hid rfl;have hcl:Hid ([Value.int .u8 (k:Int)]++byteCells D=byteCells (UInt8.ofNat k::D)):=hid (by
  rw[show (k:Int)=((UInt8.ofNat k).toNat:Int) from FZ hk];rfl)
 have HS:=hid (fun (W:World) (hW:Below w.heap.size w W)=>BH (lift hl hW));have HONE:=hid (A7 D);have HO:=hid (LJ (w:=w.alloc (.cells #[.int .u8 (k:Int)] 5)) (base:=w.heap.size) (e:=5) (Ap _) (World.alloc_heap_new w _));clear hl;go_enter Tryz.func147,Tryz.ntmps147;go_wp2_with (at_builtin;go_loud (refine AA rfl _ _ _ rfl w.heap.size 5 i0 (.int .u8 0) 1 1 AG hi hz0 hz1 hz2 rfl zO (.slice (some ⟨w.heap.size,0,none⟩) 1 1) 1 _ rfl HO.out a D.length c (byteCells D) rfl (HS.out _ zB) HONE.out zN zD zQ ?_;intro v' w1 hown1 hgrow1 hat1;obtain⟨a',c',rfl⟩:=AX hown1;have HG:=hid hgrow1;have HO1:=hid hown1;clear hgrow1 hown1 hat1))
 have ho:=HO1.out;rw[hcl.out] at ho;have hB:Below w.heap.size w w1:=Below.grown zB HG.out zQ (fun g e=>(HO.out.lt g e).1);have HR1:=hid (Et (l:=UInt8.ofNat k::D) zI ho);clear ho;refine (HF.out w1 a' _ c' HR1.out).mono ?_;rintro r w2 ⟨v,rfl,ho2,hb2⟩;rw[←hrb.out] at ho2;have HO2:=hid (ho2.low hB.size);clear ho2;go_wp2;go_ret;exact⟨_,rfl,HO2.out,Af hb2 hB⟩
theorem LU:(Tryz.prog.info? 88).map (fun i=>(i.zero,i.size,i.bytes))=some (some (.agg #[.int .u64 0,.int .i64 0,.int .i64 0]),3,24):=zJ
def LM(m:AU):List Value:=[.int .u64 m.pos,.int .i64 m.count,.int .i64 m.at_]
structure El(w:World)(base:Nat)(v:Value)(M:List AU):Prop where
 own:w.ownsRow base 88 3 v M.length (M.map LM).flatten
 nat:∀m∈M,Gn m
theorem El.nil:El w base (.slice none 0 0) []:=⟨⟨rfl,.inl ⟨rfl,rfl⟩⟩,zQ⟩
theorem El.read{w:World}{base:Nat}{v:Value}{M:List AU}(h:El w base v M):Bk.r (fun q=>base≤q∧q<w.heap.size) w [v] M:=
 AZ.slice (Ap _) ⟨M.map LM,h.own,zQ,zA4,fun i cs x hi hx=>by
  rw[DP,hx] at hi;simp at hi;subst hi;exact Jy (h.nat x (List.mem_of_getElem? hx))⟩
def Ge(ep:Int)(M:List AU)(at_ size:Int):Cj:=⟨ep,M.length,DX M,(Fi M).1,(Fi M).2,at_,size⟩
theorem IP(ep:Int)(M:List AU)(at_ size:Int)(al:Option Addr)(nl cl:Nat)(w:World)(hl:Bk.r (·<w.heap.size) w [.slice al nl cl] M)(hR:Cv M=true):
  Calls Tryz.prog 149 #[.int .u64 ep,.slice al nl cl,.int .i64 at_,.int .i64 size] w fun r w'=>r=.returned (.agg (Ge ep M at_ size).val)∧Below w.heap.size w w':=by
 obtain⟨rfl,hm,_,_⟩:=AH hl;have HE:=hid (fun (W:World) (hW:Below w.heap.size w W)=>MB W M al _ cl (lift hl hW) hR);have HN:=hid (fun (W:World) (hW:Below w.heap.size w W)=>Qw W M al _ cl (lift hl hW) hR);have hff:Hid ((Ge ep M at_ size).val=#[.int .u64 ep,.int .i64 M.length,.int .i64 (DX M),.int .u64 (Fi M).1,.int .u64 (Fi M).2,.int .i64 at_,.int .i64 size]):=hid rfl;generalize DX M=n at*;generalize (Fi M).1=e1 at*;generalize (Fi M).2=e2 at*;clear hl hR;go_enter Tryz.func149,Tryz.ntmps149;go_wp2_with fail;refine (HE.out _ zB).mono ?_;rintro r w1 ⟨rfl,hb1⟩;have hz1:w.heap.size+1≤w1.heap.size:=by have:=hb1.size;simpa using this
 have q0:=(Blk.new w 81 Vg).later hb1;have hbw1:Below w.heap.size w w1:=zB;have Q0:=hid q0;clear q0;go_wp2_with fail;refine (HN.out _ zB).mono ?_;rintro r w2 ⟨rfl,hb2⟩;have hB:=(Blk.new w1 81 #[.int .u64 ep,.int .i64 M.length,.int .i64 n,.int .u64 0,.int .u64 0,.int .i64 at_,.int .i64 size]).later hb2;have hbw2:Below w.heap.size w w2:=zB;have hz12:w1.heap.size<w2.heap.size:=hB.lt;have hB0:=Q0.out.later (Af hb2 zB);have c0:w2.cell? ⟨w1.heap.size,0,none⟩=some (.int .u64 ep):=hB.cell 0;have z0:w2.cell? ⟨w.heap.size,0,none⟩=some (.int .u64 0):=hB0.cell 0;have g0:=hB0.free 0;have c1:w2.cell? ⟨w1.heap.size,1,none⟩=some (.int .i64 M.length):=hB.cell 1;have z1:w2.cell? ⟨w.heap.size,1,none⟩=some (.int .i64 0):=hB0.cell 1;have g1:=hB0.free 1;have c2:w2.cell? ⟨w1.heap.size,2,none⟩=some (.int .i64 n):=hB.cell 2;have z2:w2.cell? ⟨w.heap.size,2,none⟩=some (.int .i64 0):=hB0.cell 2;have g2:=hB0.free 2;have c3:w2.cell? ⟨w1.heap.size,3,none⟩=some (.int .u64 0):=hB.cell 3;have z3:w2.cell? ⟨w.heap.size,3,none⟩=some (.int .u64 0):=hB0.cell 3;have g3:=hB0.free 3;have c4:w2.cell? ⟨w1.heap.size,4,none⟩=some (.int .u64 0):=hB.cell 4;have z4:w2.cell? ⟨w.heap.size,4,none⟩=some (.int .u64 0):=hB0.cell 4;have g4:=hB0.free 4;have c5:w2.cell? ⟨w1.heap.size,5,none⟩=some (.int .i64 at_):=hB.cell 5;have z5:w2.cell? ⟨w.heap.size,5,none⟩=some (.int .i64 0):=hB0.cell 5;have g5:=hB0.free 5;have c6:w2.cell? ⟨w1.heap.size,6,none⟩=some (.int .i64 size):=hB.cell 6;have z6:w2.cell? ⟨w.heap.size,6,none⟩=some (.int .i64 0):=hB0.cell 6;have g6:=hB0.free 6;have f3:=hB.free 3;have f4:=hB.free 4;clear hB hB0;go_wp2;refine An (v:=.agg #[.int .u64 ep,.int .i64 M.length,.int .i64 n,.int .u64 e1,.int .u64 e2,.int .i64 at_,.int .i64 size]) (by simp[results,Tryz.results149,go_sem,World.cell?_setCell_far,z0,z1,z2,z3,z4,z5,z6]) rfl ⟨by rw[hff.out],by clear hb1 hb2 hbw1;(repeat (first | with_reducible exact Below.refl _ _ | with_reducible assumption | (with_reducible refine Au ?_ _) | (with_reducible refine Below.setCell ?_ (by first | omega | (simp;done) | (simp;omega)) _) | (with_reducible refine Below.drew ?_) | (with_reducible refine below_drewN ?_ _) | (refine Af (by with_reducible assumption) ?_)))⟩
end Go.Proofs.YtfddhafbhceoaaaGreat
