/- Mini: Needed by pushItems_walk, part 17: texts put together by shake.py; no condition. -/
import Derived.Test.YtfddhafbhceoaaaGreatWE14
import Derived.Test.YtfddhafbhceoaaaGreatWE10
import Derived.Test.YtfddhafbhceoaaaGreatWE9
import Derived.Test.YtfddhafbhceoaaaGreatWE8
import Derived.Test.YtfddhafbhceoaaaGreatWE6
import Derived.Test.YtfddhafbhceoaaaGreatWE5
import Derived.Test.YtfddhafbhceoaaaGreatWE4
import Derived.Test.YtfddhafbhceoaaaGreatWE3
import Derived.BigQuiet
import Derived.Test.YtfddhafbhceoaaaGreatWE16
import Derived.Test.YtfddhafbhceoaaaGreatWE2
import Derived.Test.YtfddhafbhceoaaaGreatWE1
import Derived.BigRegion
import Derived.Deep.CutRange
import Derived.Deep.MidRow
import Derived.Deep.WholeRow
import Derived.Test.YtfddhafbhceoaaaGreatWE13
import Derived.Test.YtfddhafbhceoaaaGreatWE11
import Derived.Test.YtfddhafbhceoaaaGreatWE15
import Derived.Deep.Cut
set_option linter.unusedVariables false
set_option linter.unusedSimpArgs false
set_option maxRecDepth 100000
set_option maxHeartbeats 6400000
namespace Go.Bs
variable{n sz:Nat}{S:Nat → Prop}{a:Option Addr}{w:World}
theorem zBi{p:Prop}(h:p:=by rw [e0, AV]; exact hD.symm):p:=h
theorem Z3{p:Prop}(h:p:=by show 4 * (B.length - (intOf (.int .i64 ((i : Int) + 1))).toNat) + 3 < 4 * (B.length - (intOf (.int .i64 (i : Int))).toNat) + 2; simp [intOf]; omega):p:=h
abbrev Acw(h:Array Value:=by exact #[.int .i64 1,.int .i64 (s.first:Int),.int .i64 0,.int .i64 m.kind,.int .u64 m.epoch,.int .u64 m.seq,.int .u64 m.pos,.int .i64 m.count,.int .i64 m.state,.slice a1 m.streams.length a1',.slice a2 m.links.length a2',.slice a3 m.data.length a3',.int .u64 m.sea.epoch,.int .u64 m.sea.node,.int .u64 m.sea.tail,.int .u64 m.proj.epoch,.slice a4 m.proj.stripes.length a4',.int .u64 0,.int .u64 0,.slice none 0 0]):=h
abbrev AcC(h:Array Value:=by exact #[.int .i64 4,.int .i64 (wrap64 (f+(s.first:Int))),.int .i64 k,.int .i64 0,.int .u64 0,.int .u64 0,.int .u64 0,.int .i64 0,.int .i64 0,.slice none 0 0,.slice none 0 0,.slice none 0 0,.int .u64 0,.int .u64 0,.int .u64 0,.int .u64 0,.slice none 0 0,.int .u64 0,.int .u64 0,.slice none 0 0]):=h
end Go.Bs
namespace Go.Proofs.YtfddhafbhceoaaaGreat
open Go.RowKit Go.Bs Go.Maps
variable{h:Bool}{k pos:Int}{B D P:List UInt8}{m:Msg}{L c g i p:Nat}{F S:Nat → Prop}{a:Option Addr}{s:Rs}{W w w1:World}
abbrev AbV(w:World)(g:Nat)(v0:Value)(B:List UInt8)(a:Option Addr)(c:Nat)(s0:PSt)(S':PSt)(EE:List Ev)(a':Act)(W:World):Prop:=∃(s:PSt) (i:Nat) (E0:List Ev) (v:Value) (aO:Option Addr) (nO cO:Nat),CU w g v0 B a c s v (E0.map Ev.x) (.slice aO nO cO) W∧(i≤B.length∧s.fed=s0.fed+i∧s.buf.length≤s0.buf.length+i∧s.first≤s.fed∧E0.length≤i∧s.ended=0∧nO=E0.length)∧Hid (((CL s (B.drop i)).1,E0++(CL s (B.drop i)).2)=(S',EE))∧∃u:Nat→Value,a'={tmps:=#[.pointer (some ⟨g,0,none⟩),.slice a B.length c,(u 2),(u 3),.slice none 0 0,.slice aO nO cO,.pointer (some ⟨w.heap.size,0,none⟩),.pointer (some ⟨w.heap.size+1,0,none⟩),.int .i64 (i:Int),(u 9),(u 10),(u 11),(u 12),(u 13),(u 14),(u 15),(u 16),(u 17),(u 18),(u 19),(u 20),(u 21),(u 22),(u 23),(u 24),(u 25),(u 26),(u 27),(u 28),(u 29),(u 30),(u 31),(u 32),(u 33),(u 34),(u 35),(u 36),(u 37),(u 38),(u 39),(u 40),(u 41),(u 42),(u 43),(u 44),(u 45),(u 46),(u 47),(u 48),(u 49),(u 50),(u 51),(u 52),(u 53),(u 54),(u 55),(u 56),(u 57),(u 58),(u 59),(u 60),(u 61),(u 62),(u 63),(u 64),(u 65),(u 66),(u 67),(u 68),(u 69),(u 70),(u 71),(u 72),(u 73),(u 74),(u 75),(u 76),(u 77),(u 78),(u 79),(u 80),(u 81),(u 82),(u 83),(u 84),(u 85),(u 86),(u 87),(u 88),(u 89),(u 90),(u 91),(u 92),(u 93),(u 94),(u 95),(u 96),(u 97),(u 98),(u 99),(u 100),(u 101),(u 102),(u 103),(u 104),(u 105),(u 106),(u 107),(u 108),(u 109),(u 110),(u 111),(u 112),(u 113),(u 114),(u 115),(u 116)],defers:=[]}
abbrev AbU(w:World)(g:Nat)(v0:Value)(B:List UInt8)(a:Option Addr)(c:Nat)(s0:PSt)(S':PSt)(EE:List Ev)(a':Act)(W:World):Prop:=∃(s:PSt) (i:Nat) (E0:List Ev) (v:Value) (aO:Option Addr) (nO cO:Nat),CU w g v0 B a c s v (E0.map Ev.x) (.slice aO nO cO) W∧((i≤B.length∧s.fed=s0.fed+i∧s.buf.length≤s0.buf.length+i∧s.first≤s.fed∧E0.length≤i∧s.ended=0∧nO=E0.length)∧E0.length<i)∧Hid (goP (Mz s) E0 (B.drop i)=(S',EE))∧∃u:Nat→Value,a'={tmps:=#[.pointer (some ⟨g,0,none⟩),.slice a B.length c,(u 2),(u 3),.slice none 0 0,.slice aO nO cO,.pointer (some ⟨w.heap.size,0,none⟩),.pointer (some ⟨w.heap.size+1,0,none⟩),.int .i64 (i:Int),(u 9),(u 10),(u 11),(u 12),(u 13),(u 14),(u 15),(u 16),(u 17),(u 18),(u 19),(u 20),(u 21),(u 22),(u 23),(u 24),(u 25),(u 26),(u 27),(u 28),(u 29),(u 30),(u 31),(u 32),(u 33),(u 34),(u 35),(u 36),(u 37),(u 38),(u 39),(u 40),(u 41),(u 42),(u 43),(u 44),(u 45),(u 46),(u 47),(u 48),(u 49),(u 50),(u 51),(u 52),(u 53),(u 54),(u 55),(u 56),(u 57),(u 58),(u 59),(u 60),(u 61),(u 62),(u 63),(u 64),(u 65),(u 66),(u 67),(u 68),(u 69),(u 70),(u 71),(u 72),(u 73),(u 74),(u 75),(u 76),(u 77),(u 78),(u 79),(u 80),(u 81),(u 82),(u 83),(u 84),(u 85),(u 86),(u 87),(u 88),(u 89),(u 90),(u 91),(u 92),(u 93),(u 94),(u 95),(u 96),(u 97),(u 98),(u 99),(u 100),(u 101),(u 102),(u 103),(u 104),(u 105),(u 106),(u 107),(u 108),(u 109),(u 110),(u 111),(u 112),(u 113),(u 114),(u 115),(u 116)],defers:=[]}
abbrev AbT(w:World)(g:Nat)(v0:Value)(B:List UInt8)(a:Option Addr)(c:Nat)(s0:PSt)(S':PSt)(EE:List Ev)(a':Act)(W:World):Prop:=∃(s:PSt) (i:Nat) (E0:List Ev) (v:Value) (aO:Option Addr) (nO cO:Nat) (k f:Int),CU w g v0 B a c s v (E0.map Ev.x) (.slice aO nO cO) W∧(i≤B.length∧s.fed=s0.fed+i∧s.buf.length≤s0.buf.length+i∧s.first≤s.fed∧E0.length≤i∧s.ended=0∧nO=E0.length)∧Blk W (w.heap.size+1) 65 #[.int .i64 k,.int .i64 f]∧k≠0∧Hid ((⟨[],s.first,s.fed,s.need,4⟩,E0++[FK (wrap64 (f+(s.first:Int))) k])=(S',EE))∧∃u:Nat→Value,a'={tmps:=#[.pointer (some ⟨g,0,none⟩),.slice a B.length c,(u 2),(u 3),.slice none 0 0,.slice aO nO cO,.pointer (some ⟨w.heap.size,0,none⟩),.pointer (some ⟨w.heap.size+1,0,none⟩),.int .i64 (i:Int),(u 9),(u 10),(u 11),(u 12),(u 13),(u 14),(u 15),(u 16),(u 17),(u 18),(u 19),(u 20),(u 21),(u 22),(u 23),(u 24),(u 25),(u 26),(u 27),(u 28),(u 29),(u 30),(u 31),(u 32),(u 33),(u 34),(u 35),(u 36),(u 37),(u 38),(u 39),(u 40),(u 41),(u 42),(u 43),(u 44),(u 45),(u 46),(u 47),(u 48),(u 49),(u 50),(u 51),(u 52),(u 53),(u 54),(u 55),(u 56),(u 57),(u 58),(u 59),(u 60),(u 61),(u 62),(u 63),(u 64),(u 65),(u 66),(u 67),(u 68),(u 69),(u 70),(u 71),(u 72),(u 73),(u 74),(u 75),(u 76),(u 77),(u 78),(u 79),(u 80),(u 81),(u 82),(u 83),(u 84),(u 85),(u 86),(u 87),(u 88),(u 89),(u 90),(u 91),(u 92),(u 93),(u 94),(u 95),(u 96),(u 97),(u 98),(u 99),(u 100),(u 101),(u 102),(u 103),(u 104),(u 105),(u 106),(u 107),(u 108),(u 109),(u 110),(u 111),(u 112),(u 113),(u 114),(u 115),(u 116)],defers:=[]}
abbrev AbW(w:World)(g:Nat)(v0:Value)(B:List UInt8)(a:Option Addr)(c:Nat)(s0:PSt)(S':PSt)(EE:List Ev)(a':Act)(W:World):Prop:=∃(i:Nat) (E0:List Ev) (v:Value) (aO:Option Addr) (nO cO:Nat),CU w g v0 B a c S' v (E0.map Ev.x) (.slice aO nO cO) W∧E0=EE∧nO=E0.length∧∃u:Nat→Value,a'={tmps:=#[.pointer (some ⟨g,0,none⟩),.slice a B.length c,(u 2),(u 3),.slice none 0 0,.slice aO nO cO,.pointer (some ⟨w.heap.size,0,none⟩),.pointer (some ⟨w.heap.size+1,0,none⟩),.int .i64 (i:Int),(u 9),(u 10),(u 11),(u 12),(u 13),(u 14),(u 15),(u 16),(u 17),(u 18),(u 19),(u 20),(u 21),(u 22),(u 23),(u 24),(u 25),(u 26),(u 27),(u 28),(u 29),(u 30),(u 31),(u 32),(u 33),(u 34),(u 35),(u 36),(u 37),(u 38),(u 39),(u 40),(u 41),(u 42),(u 43),(u 44),(u 45),(u 46),(u 47),(u 48),(u 49),(u 50),(u 51),(u 52),(u 53),(u 54),(u 55),(u 56),(u 57),(u 58),(u 59),(u 60),(u 61),(u 62),(u 63),(u 64),(u 65),(u 66),(u 67),(u 68),(u 69),(u 70),(u 71),(u 72),(u 73),(u 74),(u 75),(u 76),(u 77),(u 78),(u 79),(u 80),(u 81),(u 82),(u 83),(u 84),(u 85),(u 86),(u 87),(u 88),(u 89),(u 90),(u 91),(u 92),(u 93),(u 94),(u 95),(u 96),(u 97),(u 98),(u 99),(u 100),(u 101),(u 102),(u 103),(u 104),(u 105),(u 106),(u 107),(u 108),(u 109),(u 110),(u 111),(u 112),(u 113),(u 114),(u 115),(u 116)],defers:=[]}
def AbH(L l:Nat)(a:Act):Nat:=if l=1 then 4*(L-(intOf (a.tmps.getD 8 (.int .i64 0))).toNat)+2 else if l=2 then 4*(L-(intOf (a.tmps.getD 8 (.int .i64 0))).toNat)+3 else if l=3 then 1 else 0
theorem Ln{aO:Option Addr}{nO cO:Nat}{i:Int}{t2 t3 t9 t10 t11 t12 t13 t14 t15 t16 t17 t18 t19 t20 t21 t22 t23 t24 t25 t26 t27 t28 t29 t30 t31 t32 t33 t34 t35 t36 t37 t38 t39 t40 t41 t42 t43 t44 t45 t46 t47 t48 t49 t50 t51 t52 t53 t54 t55 t56 t57 t58 t59 t60 t61 t62 t63 t64 t65 t66 t67 t68 t69 t70 t71 t72 t73 t74 t75 t76 t77 t78 t79 t80 t81 t82 t83 t84 t85 t86 t87 t88 t89 t90 t91 t92 t93 t94 t95 t96 t97 t98 t99 t100 t101 t102 t103 t104 t105 t106 t107 t108 t109 t110 t111 t112 t113 t114 t115 t116:Value}:∃u:Nat→Value,({tmps:=#[.pointer (some ⟨g,0,none⟩),.slice a B.length c,t2,t3,.slice none 0 0,.slice aO nO cO,.pointer (some ⟨w.heap.size,0,none⟩),.pointer (some ⟨w.heap.size+1,0,none⟩),.int .i64 (i),t9,t10,t11,t12,t13,t14,t15,t16,t17,t18,t19,t20,t21,t22,t23,t24,t25,t26,t27,t28,t29,t30,t31,t32,t33,t34,t35,t36,t37,t38,t39,t40,t41,t42,t43,t44,t45,t46,t47,t48,t49,t50,t51,t52,t53,t54,t55,t56,t57,t58,t59,t60,t61,t62,t63,t64,t65,t66,t67,t68,t69,t70,t71,t72,t73,t74,t75,t76,t77,t78,t79,t80,t81,t82,t83,t84,t85,t86,t87,t88,t89,t90,t91,t92,t93,t94,t95,t96,t97,t98,t99,t100,t101,t102,t103,t104,t105,t106,t107,t108,t109,t110,t111,t112,t113,t114,t115,t116],defers:=[]}:Act)={tmps:=#[.pointer (some ⟨g,0,none⟩),.slice a B.length c,(u 2),(u 3),.slice none 0 0,.slice aO nO cO,.pointer (some ⟨w.heap.size,0,none⟩),.pointer (some ⟨w.heap.size+1,0,none⟩),.int .i64 (i:Int),(u 9),(u 10),(u 11),(u 12),(u 13),(u 14),(u 15),(u 16),(u 17),(u 18),(u 19),(u 20),(u 21),(u 22),(u 23),(u 24),(u 25),(u 26),(u 27),(u 28),(u 29),(u 30),(u 31),(u 32),(u 33),(u 34),(u 35),(u 36),(u 37),(u 38),(u 39),(u 40),(u 41),(u 42),(u 43),(u 44),(u 45),(u 46),(u 47),(u 48),(u 49),(u 50),(u 51),(u 52),(u 53),(u 54),(u 55),(u 56),(u 57),(u 58),(u 59),(u 60),(u 61),(u 62),(u 63),(u 64),(u 65),(u 66),(u 67),(u 68),(u 69),(u 70),(u 71),(u 72),(u 73),(u 74),(u 75),(u 76),(u 77),(u 78),(u 79),(u 80),(u 81),(u 82),(u 83),(u 84),(u 85),(u 86),(u 87),(u 88),(u 89),(u 90),(u 91),(u 92),(u 93),(u 94),(u 95),(u 96),(u 97),(u 98),(u 99),(u 100),(u 101),(u 102),(u 103),(u 104),(u 105),(u 106),(u 107),(u 108),(u 109),(u 110),(u 111),(u 112),(u 113),(u 114),(u 115),(u 116)],defers:=[]}:=
 ⟨fun n=>([undef,undef,t2,t3,undef,undef,undef,undef,undef,t9,t10,t11,t12,t13,t14,t15,t16,t17,t18,t19,t20,t21,t22,t23,t24,t25,t26,t27,t28,t29,t30,t31,t32,t33,t34,t35,t36,t37,t38,t39,t40,t41,t42,t43,t44,t45,t46,t47,t48,t49,t50,t51,t52,t53,t54,t55,t56,t57,t58,t59,t60,t61,t62,t63,t64,t65,t66,t67,t68,t69,t70,t71,t72,t73,t74,t75,t76,t77,t78,t79,t80,t81,t82,t83,t84,t85,t86,t87,t88,t89,t90,t91,t92,t93,t94,t95,t96,t97,t98,t99,t100,t101,t102,t103,t104,t105,t106,t107,t108,t109,t110,t111,t112,t113,t114,t115,t116]:List Value).getD n undef,rfl⟩
theorem AbD:(Tryz.prog.info? 45).map (fun i=>(i.zero,i.size))=some (some (.agg #[.int .i64 0,.int .u64 0,.int .u64 0,.int .u64 0,.int .i64 0,.int .i64 0,.slice none 0 0,.slice none 0 0,.slice none 0 0,.int .u64 0,.int .u64 0,.int .u64 0,.int .u64 0,.slice none 0 0]),14):=zI
theorem AaS(h:i<B.length):B.drop i=B[i]::B.drop (i+1):=AS h
set_option maxHeartbeats 12800000 in
theorem Wc(w:World){g:Nat}{v0:Value}{s0:PSt}(h:Fh w g v0 s0)(B:List UInt8)(a:Option Addr)(n c:Nat)(hl:Ah.r (fun q=>q<w.heap.size∧q≠g∧v0.ownBlock≠some q) w [.slice a n c] B)(hB:B.length≤100000000)(hf:s0.fed≤100000000)(hbf:s0.buf.length≤100000000)(hfi:s0.first≤s0.fed):
  Calls Tryz.prog 20 #[.pointer (some ⟨g,0,none⟩),.slice a n c] w fun r w'=>∃v' vo,r=.returned vo∧Fh w' g v' (Vt s0 B).1∧Kn w v' w' vo ((Vt s0 B).2.map Ev.x)∧(v'.ownBlock=v0.ownBlock∨∀q,v'.ownBlock=some q→w.heap.size≤q)∧Tch (fun q=>q=g∨v0.ownBlock=some q) w w':=by
 obtain⟨rfl,hmx,hcc,hcm⟩:=AT hl;obtain⟨i0,hi,hz0,hz1,hz2⟩:=A3 DH;obtain⟨j0,hj,hy0,hy1,hy2⟩:=A3 Vo;have HO:=hid (Pv ((w.alloc (.cells Acs 45)).alloc (.cells #[.int .i64 0,.int .i64 0] 65)) ((h.blk.alloc (.cells Acs 45)).alloc (.cells #[.int .i64 0,.int .i64 0] 65)));have hgl:=h.blk.lt;have HP:=hid h;have HL:=hid hl;unfold Vt;by_cases he:s0.ended=0
 ·rw[Ai he]
  rw[Ad he,BY] at HO;have HE:=hid he;obtain⟨R,hR⟩:∃R,R=CL s0 B:=⟨_,rfl⟩;rw[←hR];obtain⟨S',EE⟩:=R;have HR:=hid hR.symm;dsimp only;clear hl h he hR;go_enter Tryz.func20,Tryz.ntmps20;go_wp2;refine Nm 1 (fun l a' W=>(l=1∧AbV w g v0 B a c s0 S' EE a' W)∨(l=2∧AbU w g v0 B a c s0 S' EE a' W)∨(l=3∧AbT w g v0 B a c s0 S' EE a' W)∨(l=0∧AbW w g v0 B a c s0 S' EE a' W)) (fun l a' _=>AbH B.length l a') rfl ?pass ?first
  case pass=>
   rintro l a' W (⟨rfl,s,i,E0,v,aO,nO,cO,hI,⟨hil,hfd,hbl,hfr,hEl,hse,rfl⟩,hrel,u,rfl⟩ | ⟨rfl,s,i,E0,v,aO,nO,cO,hI,⟨⟨hil,hfd,hbl,hfr,hEl,hse,rfl⟩,hEl2⟩,hrel,u,rfl⟩ | ⟨rfl,s,i,E0,v,aO,nO,cO,k,f,hI,⟨hil,hfd,hbl,hfr,hEl,hse,rfl⟩,hF,hk,hrel,u,rfl⟩ | ⟨rfl,i,E0,v,aO,nO,cO,hI,hEE,rfl,u,rfl⟩)
   ·refine⟨_,rfl,?_⟩
    have HFD:=hid hfd;have hfq:s.fed≤200000000:=zD;clear hfd;obtain⟨aJ,cJ,rfl⟩:=hI.par.buf.form;have hsz:=hI.sz;have HI:=hid hI;have HSE:=hid hse;clear hI hse;by_cases hlt:i<B.length
    ·have e0:((i:Int)==(B.length:Int))=false:=by rw[BW];omega
     have i1:(i:Int)<(B.length:Int):=zD;have hst:=hrel.out;rw[AaS hlt,YD] at hst;obtain⟨b,o,hA,hbS,hc⟩:=Cs HI.out.dat hlt;subst hA;generalize B[i]=x at*;have HST:=hid hst;clear hst hrel;obtain⟨y0,y1,y2,y3,y4,y5,ly⟩:=DZ HI.out.par.blk;go_wp2_with fail;refine C9 (fun w'=>w'.cell? ⟨g,1,none⟩=some (.slice aJ s.buf.length cJ)∧w'.cell? ⟨b,o+i,none⟩=some (.int .u8 (x.toNat:Int))) _ zI rfl zI ⟨y1,hc⟩ (fun hHeld=> ?_);simp only[Cy,GU];refine Ap (i:=0) (oi:=_) (v:=?_) rfl zE zE zE (fun _ _ _ h=>h) (Or.inl ⟨zS,?_⟩) zL ?_;rotate_left
     ·(intro w hSw;(try dsimp only at hSw);go_simp<;>with_reducible rfl)
     (try simp only[Act.put,Aa,Ab,Ac])
     refine Ap (i:=1) (oi:=_) (v:=?_) rfl zE zE zE (fun _ _ _ h=>h) (Or.inl ⟨zS,?_⟩) zL ?_;rotate_left
     ·(intro w hSw;(try dsimp only at hSw);go_simp<;>with_reducible rfl)
     (try simp only[Act.put,Aa,Ab,Ac])
     refine Ap (i:=2) (oi:=_) (v:=?_) rfl zE zE zE (fun _ _ _ h=>h) (Or.inl ⟨zS,?_⟩) zL ?_;rotate_left
     ·(intro w hSw;(try dsimp only at hSw);go_simp<;>with_reducible rfl)
     (try simp only[Act.put,Aa,Ab,Ac])
     refine Ap (i:=3) (oi:=_) (v:=?_) rfl zE zE zE (fun _ _ _ h=>h) (Or.inl ⟨zS,?_⟩) zL ?_;rotate_left
     ·(intro w hSw;(try dsimp only at hSw);go_simp<;>with_reducible rfl)
     (try simp only[Act.put,Aa,Ab,Ac])
     refine Ap (i:=4) (oi:=_) (v:=?_) rfl zE zE zE (fun _ _ _ h=>h) (Or.inl ⟨zS,?_⟩) zL ?_;rotate_left
     ·(intro w hSw;(try dsimp only at hSw);go_simp<;>with_reducible rfl)
     (try simp only[Act.put,Aa,Ab,Ac])
     refine Ap (i:=5) (oi:=_) (v:=?_) rfl zE zE zE (fun _ _ _ h=>h) (Or.inl ⟨zS,?_⟩) zL ?_;rotate_left
     ·(intro w hSw;(try dsimp only at hSw);go_simp<;>with_reducible rfl)
     (try simp only[Act.put,Aa,Ab,Ac])
     refine Ap (i:=6) (oi:=_) (v:=?_) rfl zE zE zE (fun _ _ _ h=>h) (Or.inl ⟨zS,?_⟩) zL ?_;rotate_left
     ·(intro w hSw;(try dsimp only at hSw);go_simp<;>with_reducible rfl)
     (try simp only[Act.put,Aa,Ab,Ac])
     refine Ap (i:=7) (oi:=_) (v:=?_) rfl zE zE zE (fun _ _ _ h=>h) (Or.inl ⟨zS,?_⟩) zL ?_;rotate_left
     ·(intro w hSw;(try dsimp only at hSw);go_simp<;>with_reducible rfl)
     (try simp only[Act.put,Aa,Ab,Ac])
     refine Ap (i:=8) (oi:=_) (v:=?_) rfl zE zE zE (fun _ _ _ h=>h) (Or.inl ⟨zS,?_⟩) zL ?_;rotate_left
     ·(intro w hSw;(try dsimp only at hSw);go_simp<;>with_reducible rfl)
     (try simp only[Act.put,Aa,Ab,Ac])
     refine AU (rs:=[9]) zE zN ?_;refine AK (o:=_) rfl (fun K hK=> ?_) AllReadyH.nil;go_simp
     refine hK.out _ _ ?_ (fun hHeld=> ?_)
     ·((try dsimp only);refine⟨?_,?_⟩<;>(first | with_reducible assumption | (with_reducible refine Blk.alloc (Blk.drew ?_) _;with_reducible assumption) | (go_keep;done)))
     clear hK K
     (try simp only[Act.put,Aa,Ab,Ac])
     have hb9:Below W.heap.size W (W.drew.alloc (.cells #[.int .u8 (x.toNat:Int)] 5)):=zA;have HI9:=hid (HI.out.later hb9);have hz9:g+1≤(W.drew.alloc (.cells #[.int .u8 (x.toNat:Int)] 5)).heap.size:=zH;clear hb9;refine AU (rs:=[10]) zE zN ?_;refine AK (o:=_) rfl (fun K hK=> ?_) AllReadyH.nil
     (refine BG zS _ _ _ zS (g+1) 5 i0 (.int .u8 0) 1 1 Au hi hz0 hz1 hz2 rfl zO (.slice aJ s.buf.length cJ) s.buf.length (byteCells s.buf) zS HI9.out.par.buf (some ⟨W.heap.size,0,none⟩) 1 1 [.int .u8 (x.toNat:Int)] zS (By W.drew 5 _ zS zS rfl) zW zK zD hz9 ?_;intro a9 c9 w9 hown9 hgrow9 hat9;have HI10:=hid (HI9.out.put hown9 hgrow9 hat9);have hG10:=HI9.out.par.blk.grown hgrow9 (fun e=>(HI9.out.vq g e.symm).1 rfl);have m1:w9.cell? ⟨g,1,none⟩=some (.slice aJ s.buf.length cJ):=hG10.cell 1;have m2:w9.frozen? ⟨g,1,none⟩=false:=hG10.free 1;have m3:w9.cell? ⟨b,o+i,none⟩=some (.int .u8 (x.toNat:Int)):=(Bn (a:=⟨b,o+i,none⟩) ((hgrow9.block b (by have:=hbS.1;simp;omega) (fun e=>by rcases (HI9.out.vq b e.symm).2.2 with h1 | h1<;>first | exact hbS.2.2 h1 | (have:=hbS.1;omega))))).trans ((Bn (a:=⟨b,o+i,none⟩) (Bx W.drew _ b (by have:=hbS.1;show b<W.heap.size;omega))).trans hc);clear hown9 hgrow9 hat9 hG10;(try dsimp only))
     refine hK.out _ _ ?_ (fun hHeld=> ?_)
     ·((try dsimp only);refine⟨?_,?_⟩<;>(first | with_reducible assumption | (with_reducible refine Blk.alloc (Blk.drew ?_) _;with_reducible assumption) | (go_keep;done)))
     clear hK K
     (try simp only[Act.put,Aa,Ab,Ac])
     refine Ap (i:=11) (oi:=_) (v:=?_) rfl zE zE zE (fun _ _ _ h=>h) (Or.inl ⟨zS,?_⟩) zL ?_;rotate_left
     ·(intro w hSw;(try dsimp only at hSw);go_simp<;>with_reducible rfl)
     (try simp only[Act.put,Aa,Ab,Ac])
     refine Ap (i:=12) (oi:=_) (v:=?_) rfl zE zE zE (fun _ _ _ h=>h) (Or.inl ⟨zS,?_⟩) zL ?_;rotate_left
     ·(intro w hSw;(try dsimp only at hSw);go_simp<;>with_reducible rfl)
     (try simp only[Act.put,Aa,Ab,Ac])
     refine Ap (i:=13) (oi:=_) (v:=?_) rfl zE zE zE (fun _ _ _ h=>h) (Or.inl ⟨zS,?_⟩) zL ?_;rotate_left
     ·(intro w hSw;(try dsimp only at hSw);go_simp<;>with_reducible rfl)
     (try simp only[Act.put,Aa,Ab,Ac])
     refine CS zI ?_ _;show wpList _ _ _ _ _ _
     go_upto_region 9 with (fail);generalize w9.setCell ⟨g,1,none⟩ (.slice a9 (s.buf.length+1) c9)=w10 at*;clear y0 y1 y2 y3 y4 y5 ly m1 m2 m3 hc HI9 hz9;obtain⟨y0,y1,y2,y3,y4,y5,ly⟩:=DZ HI10.out.par.blk;obtain⟨z0,z1,z2,z3,z4,z5⟩:=EU HI10.out.par.blk;dsimp only at y0 y1 y2 y3 y4 y5;go_upto_region 11 with (fail);have HI11:=hid HI10.out.Abl;dsimp only at HI11;generalize w10.setCell ⟨g,3,none⟩ (.int .i64 ((s.fed:Int)+1))=w11 at*;clear y0 y1 y2 y3 y4 y5 ly z0 z1 z2 z3 z4 z5 HI10;have hDl:(s.buf++[x]).length=s.buf.length+1:=zN;obtain⟨y0,y1,y2,y3,y4,y5,ly⟩:=DZ HI11.out.par.blk;obtain⟨z0,z1,z2,z3,z4,z5⟩:=EU HI11.out.par.blk;dsimp only at y0 y1 y2 y3 y4 y5;by_cases hn:0<s.need
     ·have d1:decide ((0:Int)<(s.need:Int))=true:=Ad zD
      have d1n:decide (0<s.need)=true:=Ad hn;have hstp:=HST.out;rw[Tl hn HSE.out] at hstp;have HST2:=hid hstp;clear hstp HST hn;go_wp2;go_step3
      have hfd:=HFD.out;exact⟨.inr (.inl ⟨rfl,_,i+1,E0,_,aO,_,cO,HI11.out,⟨⟨zD,zJ,zJ,zJ,zD,HSE.out,rfl⟩,zD⟩,HST2,Ln⟩),Z3⟩
     ·have d1:decide ((0:Int)<(s.need:Int))=false:=Ae zD
      have d1n:decide (0<s.need)=false:=Ae hn;have HB11:=HI11.out.par.buf.read;dsimp only at HB11;have HWH:=hid (Sq w11 (s.buf++[x]) a9 _ c9 (Ah.mono HB11 fun q hq=>hq.2) zD);clear HB11;go_wp2_with fail;refine HWH.out.mono ?_;rintro r w12 ⟨rfl,hb12⟩;have HI12:=hid (HI11.out.later hb12);clear y0 y1 y2 y3 y4 y5 ly z0 z1 z2 z3 z4 z5 HI11 HWH hb12;obtain⟨y0,y1,y2,y3,y4,y5,ly⟩:=DZ HI12.out.par.blk;obtain⟨z0,z1,z2,z3,z4,z5⟩:=EU HI12.out.par.blk;dsimp only at y0 y1 y2 y3 y4 y5;go_upto_region 13 with (fail);have HI13:=hid (HI12.out.Vd (AP (s.buf++[x])));dsimp only at HI13;generalize w12.setCell ⟨g,4,none⟩ (.int .i64 (AP (s.buf++[x]):Int))=w13 at*;clear y0 y1 y2 y3 y4 y5 ly z0 z1 z2 z3 z4 z5 HI12;obtain⟨y0,y1,y2,y3,y4,y5,ly⟩:=DZ HI13.out.par.blk;dsimp only at y0 y1 y2 y3 y4 y5;by_cases hw:0<AP (s.buf++[x])
      ·have d2:decide ((0:Int)<(AP (s.buf++[x]):Int))=true:=Ad zD
       have d2n:decide (0<AP (s.buf++[x]))=true:=Ad hw;have hstp:=HST.out;rw[Rr hn HSE.out hw] at hstp;have HST2:=hid hstp;clear hstp HST hw hn;go_wp2;go_step3
       have hfd:=HFD.out;exact⟨.inr (.inl ⟨rfl,_,i+1,E0,_,aO,_,cO,HI13.out,⟨⟨zD,zJ,zJ,zJ,zD,HSE.out,rfl⟩,zD⟩,HST2,Ln⟩),Z3⟩
      ·have d2:decide ((0:Int)<(AP (s.buf++[x]):Int))=false:=Ae zD
       have d2n:decide (0<AP (s.buf++[x]))=false:=Ae hw;have HB13:=HI13.out.par.buf.read;dsimp only at HB13;have hWR:=TQ w13 (s.buf++[x]) a9 _ c9 (Ah.mono HB13 fun q hq=>hq.2) zD;clear HB13;by_cases hk:(Ca (s.buf++[x])).1.k=1
       ·rw[Ai hk,Ai hk] at hWR
        have HWR:=hid hWR;have HG:=hid (fun (W':World)=>CX W' 0 0);have hstp:=HST.out;rw[Tk hn HSE.out hw hk,Ur (s:=⟨s.buf++[x],s.first,s.fed+1,AP (s.buf++[x]),s.ended⟩) HSE.out,BK] at hstp;have HST2:=hid hstp;clear hstp HST hw hn hk hWR;go_wp2_with fail;refine HWR.out.mono ?_;rintro r w14 ⟨rfl,hb14⟩;have HI14:=hid (HI13.out.later hb14);obtain⟨k0,f0,hF14⟩:=HI14.out.fb;obtain⟨r0,r1,r2,r3,lr⟩:=B6 hF14;clear y0 y1 y2 y3 y4 y5 ly HI13 HWR hb14 hF14;go_upto_region 15 with (fail);obtain⟨hI15,hF15⟩:=HI14.out.Ab2 0 0;have HI15:=hid hI15;generalize (w14.setCell ⟨w.heap.size+1,0,none⟩ (.int .i64 0)).setCell ⟨w.heap.size+1,1,none⟩ (.int .i64 0)=w15 at*;clear hI15 HI14 r0 r1 r2 r3 lr;obtain⟨r0,r1,r2,r3,lr⟩:=B6 hF15;go_wp2_with fail;refine (HG.out _).mono ?_;rintro r w16 ⟨rfl,hb16⟩;have HI16:=hid (HI15.out.later hb16);go_wp2;go_step3
        have hfd:=HFD.out;exact⟨.inl ⟨rfl,_,i+1,E0,_,aO,_,cO,HI16.out,⟨zD,zJ,zJ,zJ,zD,HSE.out,rfl⟩,HST2,Ln⟩,by show 4*(B.length-(intOf (.int .i64 ((i:Int)+1))).toNat)+2<4*(B.length-(intOf (.int .i64 (i:Int))).toNat)+2;simp[intOf];omega⟩
       ·rw[Ak hk,Ak hk] at hWR
        have hk0:=Yx hw;have hstp:=HST.out;rw[VX hn HSE.out hw hk,Vq (s:=⟨[],s.first,s.fed+1,AP (s.buf++[x]),4⟩) (show (4:Int)≠0 by decide)] at hstp;generalize (Ca (s.buf++[x])).1.k=k at*;generalize (Ca (s.buf++[x])).1.f=f at*;have HWR:=hid hWR;have HG:=hid (fun (W':World)=>(by have:=CX W' k f;rw[Ae hk0] at this;exact this:Calls Tryz.prog 65 #[.agg #[.int .i64 k,.int .i64 f]] W' fun r w'=>r=.returned (.bool false)∧Below W'.heap.size W' w'));have HST2:=hid hstp;have HK0:=hid hk0;clear hstp HST hw hn hk hWR hk0;go_wp2_with fail;refine HWR.out.mono ?_;rintro r w14 ⟨rfl,hb14⟩;have HI14:=hid (HI13.out.later hb14);obtain⟨k0,f0,hF14⟩:=HI14.out.fb;obtain⟨r0,r1,r2,r3,lr⟩:=B6 hF14;clear y0 y1 y2 y3 y4 y5 ly HI13 HWR hb14 hF14;go_upto_region 15 with (fail);obtain⟨hI15,hF15⟩:=HI14.out.Ab2 k f;have HI15:=hid hI15;generalize (w14.setCell ⟨w.heap.size+1,0,none⟩ (.int .i64 k)).setCell ⟨w.heap.size+1,1,none⟩ (.int .i64 f)=w15 at*;clear hI15 HI14 r0 r1 r2 r3 lr;have HF15:=hid hF15;obtain⟨r0,r1,r2,r3,lr⟩:=B6 hF15;clear hF15;go_wp2_with fail;refine (HG.out _).mono ?_;rintro r w16 ⟨rfl,hb16⟩;have HI16:=hid (HI15.out.later hb16);have HF16:=hid (HF15.out.later hb16);go_wp2;go_step3
        have hfd:=HFD.out;exact⟨.inr (.inr (.inl ⟨rfl,_,i+1,E0,_,aO,_,cO,k,f,HI16.out,⟨zD,zJ,zJ,zJ,zD,HSE.out,rfl⟩,HF16.out,HK0.out,HST2,Ln⟩)),by show 1<4*(B.length-(intOf (.int .i64 (i:Int))).toNat)+2;omega⟩
    ·obtain rfl:i=B.length:=by omega
     have e0:((B.length:Int)==(B.length:Int))=true:=zN;have hst:=hrel.out;rw[GM,JV,BK] at hst;simp only[CR] at hst;obtain⟨rfl,rfl⟩:=hst;clear hrel;go_wp2;go_step3
     have hfd:=HFD.out;exact⟨.inr (.inr (.inr ⟨rfl,B.length,E0,_,aO,_,cO,HI.out,rfl,rfl,Ln⟩)),by show 0<4*_+2;omega⟩
   ·refine⟨_,rfl,?_⟩
    have HFD:=hid hfd;have hfq:s.fed≤200000000:=zD;clear hfd;obtain⟨aJ,cJ,rfl⟩:=hI.par.buf.form;have hsz:=hI.sz;have HI:=hid hI;have HSE:=hid hse;have HBU:=hid hI.par.buf.read;have HNV:Hid (∀q,(Value.slice aJ s.buf.length cJ).ownBlock=some q→W.heap.size≤q→False):=hid fun q e h=>by have:=(hI.par.at_ q e).2;omega
    have HNO:Hid (∀q,(Value.slice aO E0.length cO).ownBlock=some q→W.heap.size≤q→False):=hid fun q e h=>by
     obtain⟨cells,hc⟩:=hI.own;have:=(BI hc.1 q e).2;omega
    clear hI hse;obtain⟨y0,y1,y2,y3,y4,y5,ly⟩:=DZ HI.out.par.blk;by_cases hq:s.buf.length<s.need
    ·have d1:decide ((s.buf.length:Int)<(s.need:Int))=true:=Ad zD
     have d1n:decide (s.buf.length<s.need)=true:=Ad hq;have hst:=hrel.out;have hr:Mz s=(s,[]):=by unfold Mz;rw[Ai hq]
     rw[hr,Ur HSE.out,BK] at hst;have HST:=hid hst;clear hst hrel hr hq;go_wp2_with fail;go_quiet (fail)
     go_wp2;go_step3
     have hfd:=HFD.out;exact⟨.inl ⟨rfl,s,i,E0,_,aO,_,cO,HI.out.later (below_drewN (Below.refl _ _) nq),⟨hil,hfd,hbl,hfr,zD,HSE.out,rfl⟩,HST,Ln⟩,Nat.lt_succ_self _⟩
    ·have d1:decide ((s.buf.length:Int)<(s.need:Int))=false:=Ae zD
     have d1n:decide (s.buf.length<s.need)=false:=Ae hq;have hst:=hrel.out;unfold Mz at hst;rw[Ak hq] at hst;generalize hG:CC s.buf=G at*;obtain⟨m,q,nn,k,f⟩:=G;dsimp only at hst;have HGT:=hid (fun (W':World) (hW:Below W.heap.size W W')=>XC W' s.buf aJ _ cJ (Ah.mono (Ah.keep HBU.out fun q hq=>hW.block q hq.2) fun q hq=>Aj hq.2 hW.size) zD hG);have HST:=hid hst;clear hst hrel hq hG HBU;go_wp2_with fail;go_quiet (fail)
     go_wp2_with fail;refine (HGT.out _ (below_drewN (Below.refl _ _) nq)).mono ?_;rintro r w1 ⟨a1,a1',a2,a2',a3,a3',a4,a4',rfl,hm1,hb1⟩;have HI1:=hid (HI.out.later (Af hb1 (below_drewN (Below.refl _ _) nq)));have X1:Hid (A9 (fun q=>W.heap.size≤q∧q<w1.heap.size) w1 m a1 a1' a2 a2' a3 a3' a4 a4'):=hid hm1;clear y0 y1 y2 y3 y4 y5 ly HGT hb1 hm1;obtain⟨u0,u1,u2,u3,u4,u5,u6,u7,u8,u9,u10,u11,u12,u13,hM⟩:=HI1.out.mb;obtain⟨k0,f0,hF⟩:=HI1.out.fb;have HM:=hid hM;have HF:=hid hF;have H14:=hid (show (Tryz.prog.info? 45).map (·.size)=some (#[.int .i64 m.kind,.int .u64 m.epoch,.int .u64 m.seq,.int .u64 m.pos,.int .i64 m.count,.int .i64 m.state,.slice a1 m.streams.length a1',.slice a2 m.links.length a2',.slice a3 m.data.length a3',.int .u64 m.sea.epoch,.int .u64 m.sea.node,.int .u64 m.sea.tail,.int .u64 m.proj.epoch,.slice a4 m.proj.stripes.length a4']:Array Value).size from (zero_of_info AbD).2);have HONE:=hid (show (#[.int .i64 m.kind,.int .u64 m.epoch,.int .u64 m.seq,.int .u64 m.pos,.int .i64 m.count,.int .i64 m.state,.slice a1 m.streams.length a1',.slice a2 m.links.length a2',.slice a3 m.data.length a3',.int .u64 m.sea.epoch,.int .u64 m.sea.node,.int .u64 m.sea.tail,.int .u64 m.proj.epoch,.slice a4 m.proj.stripes.length a4']:Array Value).all (·.oneCell')=true by simp[Value.oneCell']);clear hM hF;go_upto_region 18 with (refine wpList_store_row rfl 45 _ _ rfl w.heap.size #[.int .i64 m.kind,.int .u64 m.epoch,.int .u64 m.seq,.int .u64 m.pos,.int .i64 m.count,.int .i64 m.state,.slice a1 m.streams.length a1',.slice a2 m.links.length a2',.slice a3 m.data.length a3',.int .u64 m.sea.epoch,.int .u64 m.sea.node,.int .u64 m.sea.tail,.int .u64 m.proj.epoch,.slice a4 m.proj.stripes.length a4'] rfl rfl 45 _ HM.out H14.out rfl HONE.out ?_;have hM5:=Blk.row Acr HM.out;have hT5:=Tch.row w1 w.heap.size Acr;generalize w1.setRow w.heap.size Acr=w5 at*;have hF5:=HF.out.tch hT5 zD;obtain⟨r0,r1,r2,r3,lr⟩:=B6 hF5;have HM5:=hid hM5;have HT5:=hid hT5;have HF5:=hid hF5;clear hM5 hT5 hF5);have hM2:Blk ((w5.setCell ⟨w.heap.size+1,0,none⟩ (.int .i64 k)).setCell ⟨w.heap.size+1,1,none⟩ (.int .i64 f)) w.heap.size 45 Acr:=(HM5.out.far zJ _).far zJ _;have hF2:Blk ((w5.setCell ⟨w.heap.size+1,0,none⟩ (.int .i64 k)).setCell ⟨w.heap.size+1,1,none⟩ (.int .i64 f)) (w.heap.size+1) 65 #[.int .i64 k,.int .i64 f]:=(HF5.out.set 0 (.int .i64 k)).set 1 (.int .i64 f);have ht2:Tch (fun b=>b=w.heap.size∨b=w.heap.size+1) w1 ((w5.setCell ⟨w.heap.size+1,0,none⟩ (.int .i64 k)).setCell ⟨w.heap.size+1,1,none⟩ (.int .i64 f)):=((HT5.out.mono (G:=fun b=>b=w.heap.size∨b=w.heap.size+1) (fun b _ e=>Or.inl e)).setCell (p:=⟨w.heap.size+1,0,none⟩) (fun _=> .inr rfl) _).setCell (p:=⟨w.heap.size+1,1,none⟩) (fun _=> .inr rfl) _;generalize ((w5.setCell ⟨w.heap.size+1,0,none⟩ (.int .i64 k)).setCell ⟨w.heap.size+1,1,none⟩ (.int .i64 f))=w2 at*;clear r0 r1 r2 r3 lr HM5 HF5 HT5 HM HF HONE;have HI2:=hid (HI1.out.mf ht2 ⟨_,_,_,_,_,_,_,_,_,_,_,_,_,_,hM2⟩ ⟨k,f,hF2⟩);have X2:=hid (A9.EM (S':=fun q=>W.heap.size≤q∧q<w2.heap.size) X1.out (fun q hq=>ht2.block q hq.2 zD) (fun q hq=>⟨hq.1,Aj hq.2 ht2.size⟩));have HM2:=hid hM2;have HF2:=hid hF2;obtain⟨r0,r1,r2,r3,lr⟩:=B6 hF2;clear hM2 hF2 ht2 X1 HI1;by_cases hk:k=0
     ·subst hk
      simp only[Fx] at HST;have HG:=hid (fun (W':World)=>(by have:=CX W' 0 f;exact this:Calls Tryz.prog 65 #[.agg #[.int .i64 0,.int .i64 f]] W' fun r w'=>r=.returned (.bool true)∧Below W'.heap.size W' w'));go_wp2_with fail;refine (HG.out _).mono ?_;rintro r w3 ⟨rfl,hb3⟩;have HI3:=hid (HI2.out.later hb3);have hM3:=HM2.out.later hb3;have X3:=hid (A9.EM (S':=fun q=>W.heap.size≤q∧q<w3.heap.size) X2.out (fun q hq=>hb3.block q hq.2) (fun q hq=>⟨hq.1,Aj hq.2 hb3.size⟩));clear hb3 HI2 HM2 HF2 X2 r0 r1 r2 r3 lr HG;obtain⟨y0,y1,y2,y3,y4,y5,ly⟩:=DZ HI3.out.par.blk;go_wp2_with fail;refine CJ (S:=fun w'=>Blk w' w.heap.size 45 #[.int .i64 m.kind,.int .u64 m.epoch,.int .u64 m.seq,.int .u64 m.pos,.int .i64 m.count,.int .i64 m.state,.slice a1 m.streams.length a1',.slice a2 m.links.length a2',.slice a3 m.data.length a3',.int .u64 m.sea.epoch,.int .u64 m.sea.node,.int .u64 m.sea.tail,.int .u64 m.proj.epoch,.slice a4 m.proj.stripes.length a4']∧w'.cell? ⟨g,2,none⟩=some (.int .i64 (s.first:Int))) zI ⟨hM3,y2⟩ (fun hHeld=> ?_)
      (try simp only[AA,Ay,Aw,Act.put,Aa,Ab,Ac])
      refine Ap (i:=0) (oi:=_) (v:=?_) rfl zE zE zE (fun _ _ _ h=>h) (Or.inl ⟨zS,?_⟩) zL ?_;rotate_left
      ·(intro w hSw;(try dsimp only at hSw);go_simp<;>with_reducible rfl)
      (try simp only[Act.put,Aa,Ab,Ac])
      refine Ap (i:=1) (oi:=_) (v:=?_) rfl zE zE zE (fun _ _ _ h=>h) (Or.inl ⟨zS,?_⟩) zL ?_;rotate_left
      ·(intro w hSw;(try dsimp only at hSw);go_simp<;>with_reducible rfl)
      (try simp only[Act.put,Aa,Ab,Ac])
      refine Ap (i:=2) (oi:=_) (v:=?_) rfl zE zE zE (fun _ _ _ h=>h) (Or.inl ⟨zS,?_⟩) zL ?_;rotate_left
      ·(intro w hSw;(try dsimp only at hSw);go_simp<;>with_reducible rfl)
      (try simp only[Act.put,Aa,Ab,Ac])
      refine Ap (i:=3) (oi:=_) (v:=?_) rfl zE zE zE (fun _ _ _ h=>h) (Or.inl ⟨zS,?_⟩) zL ?_;rotate_left
      ·(intro w hSw;(try dsimp only at hSw);go_simp<;>with_reducible rfl)
      (try simp only[Act.put,Aa,Ab,Ac])
      refine Ap (i:=4) (oi:=_) (v:=?_) rfl zE zE zE (fun _ _ _ h=>h) (Or.inl ⟨zS,?_⟩) zL ?_;rotate_left
      ·(intro w hSw;(try dsimp only at hSw);go_simp<;>with_reducible rfl)
      (try simp only[Act.put,Aa,Ab,Ac])
      (try simp only[AA,Ay,Aw,Act.put,Aa,Ab,Ac])
      refine Ap (i:=5) (oi:=_) (v:=?_) rfl zE zE zE (fun _ _ _ h=>h) (Or.inl ⟨zI,?_⟩) zL ?_;rotate_left
      ·(intro w hSw;(try dsimp only at hSw);(have qq:=Ab9 hSw.1;obtain⟨q0,q1,q2,q3,q4,q5,q6,q7,q8,q9,q10,q11,q12,q13,ql⟩:=qq);go_simp<;>with_reducible rfl)
      (try simp only[Act.put,Aa,Ab,Ac])
      (try simp only[AA,Ay,Aw,Act.put,Aa,Ab,Ac])
      refine Ap (i:=6) (oi:=_) (v:=?_) rfl zE zE zE (fun _ _ _ h=>h) (Or.inl ⟨zS,?_⟩) zL ?_;rotate_left
      ·(intro w hSw;(try dsimp only at hSw);go_simp<;>with_reducible rfl)
      (try simp only[Act.put,Aa,Ab,Ac])
      (try simp only[AA,Ay,Aw,Act.put,Aa,Ab,Ac])
      refine AU (rs:=[7]) zE zN ?_;refine AK (o:=_) rfl (fun K hK=> ?_) AllReadyH.nil
      (go_simp;have hM4:Blk ((w3.alloc (.cells Acw 50)).drew) w.heap.size 45 Acr:=(hM3.alloc _).drew;have y24:((w3.alloc (.cells Acw 50)).drew).cell? ⟨g,2,none⟩=some (.int .i64 (s.first:Int)):=((HI3.out.par.blk.alloc _).drew).cell 2)
      refine hK.out _ _ ?_ (fun hHeld=> ?_)
      ·((try dsimp only);refine⟨?_,?_⟩<;>(first | with_reducible assumption | (with_reducible refine Blk.alloc (Blk.drew ?_) _;with_reducible assumption) | (go_keep;done)))
      clear hK K
      (try simp only[Act.put,Aa,Ab,Ac])
      clear hM4 y24;have hb4:Below w3.heap.size w3 ((w3.alloc (.cells Acw 50)).drew):=zA;have HI4:=hid (HI3.out.later hb4);obtain⟨cells,hcE⟩:=HI4.out.own;have hrow:=hcE.1;rw[EP] at hrow;have HROW:=hid hrow;have HCE:=hid hcE;have X4:=hid (A9.EM (S':=fun q=>W.heap.size≤q∧q<((w3.alloc (.cells Acw 50)).drew).heap.size) X3.out (fun q hq=>hb4.block q hq.2) (fun q hq=>⟨hq.1,Aj hq.2 hb4.size⟩));have hz4:w.heap.size+2≤((w3.alloc (.cells Acw 50)).drew).heap.size:=HI4.out.sz;have hwn:∀q,W.heap.size≤q→(Value.slice aJ s.buf.length cJ).ownBlock≠some q∧(Value.slice aO E0.length cO).ownBlock≠some q:=fun q hq=>⟨fun e=>HNV.out q e hq,fun e=>HNO.out q e hq⟩;have hx4:J0.r (fun q=>(w.heap.size+2≤q∧q<((w3.alloc (.cells #[.int .i64 1,.int .i64 (s.first:Int),.int .i64 0,.int .i64 m.kind,.int .u64 m.epoch,.int .u64 m.seq,.int .u64 m.pos,.int .i64 m.count,.int .i64 m.state,.slice a1 m.streams.length a1',.slice a2 m.links.length a2',.slice a3 m.data.length a3',.int .u64 m.sea.epoch,.int .u64 m.sea.node,.int .u64 m.sea.tail,.int .u64 m.proj.epoch,.slice a4 m.proj.stripes.length a4',.int .u64 0,.int .u64 0,.slice none 0 0] 50)).drew).heap.size∧(Value.slice aJ s.buf.length cJ).ownBlock≠some q)∧(Value.slice aO E0.length cO).ownBlock≠some q) ((w3.alloc (.cells Acw 50)).drew) (DF (Ev.x (DV s.first m)) a1 a1' a2 a2' a3 a3' a4 a4' none 0) (Ev.x (DV s.first m)):=
       J0.mono (YK ⟨X4.out,Vp,Vp,Bt (xs:=[]) rfl (An _) (Am _) (.inl rfl)⟩) fun q hq=>⟨⟨zD,hq.2,(hwn q hq.1).1⟩,(hwn q hq.1).2⟩
      have HX4:=hid hx4;clear hx4 hwn X4 X3 hcE hrow hb4 HI3;refine AU (rs:=[8]) zE zN ?_;refine AK (o:=_) rfl (fun K hK=> ?_) AllReadyH.nil
      (refine BG zS _ _ _ zS (w.heap.size+2) 50 j0 (.agg Acv) 20 240 Tryz.underlying25 hj hy0 hy1 hy2 rfl zO (.slice aO E0.length cO) E0.length cells.flatten zS HROW.out (some ⟨w3.heap.size,0,none⟩) 1 1 (DF (Ev.x (DV s.first m)) a1 a1' a2 a2' a3 a3' a4 a4' none 0) zS (By w3.drew 50 _ zS zS rfl) Nj zK zD hz4 ?_;intro a9 c9 w9 hown9 hgrow9 hat9;have HI9:=hid (HI4.out.tell HCE.out (x:=Ev.x (DV s.first m)) rfl HX4.out (by rw[EP];exact hown9) hgrow9 hat9);have hM9:=(hM3.later (show Below w3.heap.size w3 ((w3.alloc (.cells Acw 50)).drew) by (repeat (first | with_reducible exact Below.refl _ _ | with_reducible assumption | (with_reducible refine AH ?_ _) | (with_reducible refine Below.setCell ?_ zF _) | (with_reducible refine Below.drew ?_) | (with_reducible refine below_drewN ?_ _) | (refine Af zG ?_))))).grown hgrow9 (fun e=>by have:=(BI HROW.out _ e.symm).1;omega);have hG9:=HI9.out.par.blk.cell 2;have m2:w9.cell? ⟨g,2,none⟩=some (.int .i64 (s.first:Int)):=hG9;clear hown9 hgrow9 hat9 hG9;(try dsimp only))
      refine hK.out _ _ ?_ (fun hHeld=> ?_)
      ·((try dsimp only);refine⟨?_,?_⟩<;>(first | with_reducible assumption | (with_reducible refine Blk.alloc (Blk.drew ?_) _;with_reducible assumption) | (go_keep;done)))
      clear hK K
      (try simp only[Act.put,Aa,Ab,Ac])
      (try simp only[AA,Ay,Aw,Act.put,Aa,Ab,Ac])
      refine Ap (i:=9) (oi:=_) (v:=?_) rfl zE zE zE (fun _ _ _ h=>h) (Or.inl ⟨zS,?_⟩) zL ?_;rotate_left
      ·(intro w hSw;(try dsimp only at hSw);go_simp<;>with_reducible rfl)
      (try simp only[Act.put,Aa,Ab,Ac])
      refine CS zI ?_ _;clear y0 y1 y2 y3 y4 y5 ly m2 hM9 hM3 HI4 HROW HCE HX4;obtain⟨y0,y1,y2,y3,y4,y5,ly⟩:=DZ HI9.out.par.blk;obtain⟨z0,z1,z2,z3,z4,z5⟩:=EU HI9.out.par.blk;have hI11:=((HI9.out.Xu s.fed).Vd 0).drop;dsimp only at hI11;have em:E0.map Ev.x++[Ev.x (DV s.first m)]=(E0++[DV s.first m]).map Ev.x:=zN;rw[em] at hI11;have HI11:=hid hI11;have hst:=HST.out;rw[Ur (s:=⟨[],s.fed,s.fed,0,s.ended⟩) HSE.out] at hst;have HST2:=hid hst;clear hI11 em HST hst HI9;go_wp2;go_step3
      have hfd:=HFD.out;exact⟨.inl ⟨rfl,⟨[],s.fed,s.fed,0,s.ended⟩,i,E0++[DV s.first m],.slice none 0 0,a9,_,c9,HI11.out,⟨hil,hfd,by dsimp only[List.length_nil];omega,An _,zAt,HSE.out,zCc⟩,HST2,Ln⟩,Nat.lt_succ_self _⟩
     ·have HG:=hid (fun (W':World)=>(by have:=CX W' k f;rw[Ae hk] at this;exact this:Calls Tryz.prog 65 #[.agg #[.int .i64 k,.int .i64 f]] W' fun r w'=>r=.returned (.bool false)∧Below W'.heap.size W' w'))
      have hst:=HST.out;rw[Ak hk,Vq (s:=⟨[],s.first,s.fed,s.need,4⟩) (show (4:Int)≠0 by decide)] at hst;have HST2:=hid hst;have HK:=hid hk;clear hst HST hk;go_wp2_with fail;refine (HG.out _).mono ?_;rintro r w3 ⟨rfl,hb3⟩;have HI3:=hid (HI2.out.later hb3);have HF3:=hid (HF2.out.later hb3);go_wp2;go_step3
      have hfd:=HFD.out;exact⟨.inr (.inr (.inl ⟨rfl,s,i,E0,_,aO,_,cO,k,f,HI3.out,⟨hil,hfd,hbl,hfr,zD,HSE.out,rfl⟩,HF3.out,HK.out,HST2,Ln⟩)),by show 1<4*_+3;omega⟩
   ·refine⟨_,rfl,?_⟩
    have HFD:=hid hfd;have hfq:s.fed≤200000000:=zD;clear hfd;have hsz:=hI.sz;have HI:=hid hI;have HBD:=hid (Wd W hI.par k f hk);obtain⟨r0,r1,r2,r3,lr⟩:=B6 hF;have hst:=hrel.out;simp only[CR] at hst;obtain⟨rfl,rfl⟩:=hst;clear hI hF hk hrel;go_wp2_with fail;refine HBD.out.mono ?_;rintro r w1 ⟨rfl,hp1,ht1⟩;have HI2:=hid ((HI.out.bad hp1 ht1).later (show Below w1.heap.size w1 (w1.alloc (.cells AcC 50)) by (repeat (first | with_reducible exact Below.refl _ _ | with_reducible assumption | (with_reducible refine AH ?_ _) | (with_reducible refine Below.setCell ?_ zF _) | (with_reducible refine Below.drew ?_) | (with_reducible refine below_drewN ?_ _) | (refine Af zG ?_)))));obtain⟨cells,hcE⟩:=HI2.out.own;have hrow:=hcE.1;rw[EP] at hrow;have HROW:=hid hrow;have HCE:=hid hcE;have hz2:w.heap.size+2≤(w1.alloc (.cells AcC 50)).heap.size:=HI2.out.sz;have HX:=hid (show J0.r (fun q=>(w.heap.size+2≤q∧q<(w1.alloc (.cells #[.int .i64 4,.int .i64 (wrap64 (f+(s.first:Int))),.int .i64 k,.int .i64 0,.int .u64 0,.int .u64 0,.int .u64 0,.int .i64 0,.int .i64 0,.slice none 0 0,.slice none 0 0,.slice none 0 0,.int .u64 0,.int .u64 0,.int .u64 0,.int .u64 0,.slice none 0 0,.int .u64 0,.int .u64 0,.slice none 0 0] 50)).heap.size∧(Value.slice none 0 0).ownBlock≠some q)∧(Value.slice aO E0.length cO).ownBlock≠some q) (w1.alloc (.cells AcC 50)) (DF (Ev.x (FK (wrap64 (f+(s.first:Int))) k)) none 0 none 0 none 0 none 0 none 0) (Ev.x (FK (wrap64 (f+(s.first:Int))) k)) from YK Mc);clear hp1 ht1 hcE hrow r0 r1 r2 r3 lr HBD HI;generalize hFV:wrap64 (f+(s.first:Int))=FV at*;have HFV:=hid hFV;clear hFV;go_wp2_with (at_builtin;go_loud (refine Ar rfl _ _ _ rfl (w.heap.size+2) 50 j0 (.agg Acv) 20 240 Tryz.underlying25 hj hy0 hy1 hy2 rfl zO (.slice aO E0.length cO) E0.length cells.flatten rfl HROW.out (some ⟨w1.heap.size,0,none⟩) 1 1 (DF (Ev.x (FK FV k)) none 0 none 0 none 0 none 0 none 0) rfl (By w1 50 _ rfl rfl rfl) Nj zK zD hz2 ?_;intro v5 w5 hown5 hgrow5 hat5;obtain⟨a5,c5,rfl⟩:=AD hown5;have HI5:=hid (HI2.out.tell HCE.out (x:=Ev.x (FK FV k)) rfl HX.out (by rw[EP];exact hown5) hgrow5 hat5);clear hown5 hgrow5 hat5))
    go_step3
    go_wp2;simp only[Le];go_ret;have hFV:=HFV.out;subst hFV;have hI5:=HI5.out;have em:E0.map Ev.x++[Ev.x (FK (wrap64 (f+(s.first:Int))) k)]=(E0++[FK (wrap64 (f+(s.first:Int))) k]).map Ev.x:=zN;rw[em] at hI5;exact⟨.slice none 0 0,_,rfl,hI5.par,hI5.told,hI5.vb.imp id (fun h q e=>by have:=h q e;omega),hI5.tch⟩
   ·refine⟨_,rfl,?_⟩
    subst hEE;have HI:=hid hI;clear hI;go_wp2;simp only[Le];go_ret;exact⟨v,_,rfl,HI.out.par,HI.out.told,HI.out.vb.imp id (fun h q e=>by have:=h q e;omega),HI.out.tch⟩
  case first=>
   intro K hK;go_wp2_with fail;refine HO.out.mono ?_;rintro r w1 ⟨rfl,rfl⟩;have hW:Below w.heap.size w ((w.alloc (.cells Acs 45)).alloc (.cells #[.int .i64 0,.int .i64 0] 65)):=zA;have hI:CU w g v0 B a c s0 v0 [] (.slice none 0 0) ((w.alloc (.cells Acs 45)).alloc (.cells #[.int .i64 0,.int .i64 0] 65)):=
    ⟨HP.out.later hW,.inl rfl,⟨[],AY.nil⟩,(fun q e=>zAd),⟨_,_,_,_,_,_,_,_,_,_,_,_,_,_,zC⟩,⟨0,0,zC⟩,Ah.keep HL.out fun q hq=>hW.block q hq.1,((Tch.refl _ _).alloc _).alloc _,zN,hgl,fun q e=>(HP.out.at_ q e).2⟩
   have HI:=hid hI;clear hI hW;go_wp2;go_step3
   rename_i hkk
   exact hkk _ _ (hK _ _ (.inl ⟨zCd,s0,0,[],v0,none,0,0,HI.out,⟨Am _,rfl,An _,hfi,An _,HE.out,rfl⟩,hid (by rw[CO,AV];exact HR.out),Ln⟩))
 ·rw[Ak he]
  rw[Ae he,BY] at HO;clear hl h he;go_enter Tryz.func20,Tryz.ntmps20;go_wp2;refine Lw ?_;go_wp2_with fail;refine HO.out.mono ?_;rintro r w1 ⟨rfl,rfl⟩;go_wp2_with fail;simp only[Exit.noGoto];go_ret;exact⟨v0,_,rfl,HP.out.later zA,Kn.nil,.inl rfl,((Tch.refl _ _).alloc _).alloc _⟩
end Go.Proofs.YtfddhafbhceoaaaGreat
namespace Go.Bs
open Go.RowKit
variable{n sz:Nat}{S:Nat → Prop}{a:Option Addr}{w:World}
theorem AY.app{α:Type}{w w':World}{F:Nat→Prop}{A:Rp α}{base:Nat}{e:TypeId}{sz:Nat}{v v':Value}{xs ys:List α}{news:List (List Value)}{cells:List (List Value)}(h:AY F A base e sz w v xs cells)(hF:∀b,F b→b<w.heap.size)
 (hl:news.length=ys.length) (hn:∀c∈news,c.length=sz) (hx:∀(i:Nat) cs y,news[i]? =some cs→ys[i]? =some y→A.r (fun b=>F b∧v.ownBlock≠some b) w cs y)
 (hown:w'.ownsRow base e sz v' (xs.length+ys.length) (cells.flatten++news.flatten)) (hg:w.grownBy w' v.ownBlock) (hat:v'.ownBlock=v.ownBlock∨v'.ownBlock=some w.heap.size):AY F A base e sz w' v' (xs++ys) (cells++news):=by
 obtain⟨ho,hlen,hsz,hA⟩:=h;have lift:∀cs y,A.r (fun b=>F b∧v.ownBlock≠some b) w cs y→A.r (fun b=>F b∧v'.ownBlock≠some b) w' cs y:=fun cs y hr=>
  A.mono (A.keep hr fun b hb=>hg.block b (hF b hb.1) (fun e=>hb.2 e.symm)) fun b hb=>⟨hb.1,fun e=>by
   rcases hat with h | h
   ·exact hb.2 (h ▸ e)
   ·rw[h] at e;have:=A7 e;have:=hF b hb.1;omega⟩
 refine⟨?_,by simp[hlen,hl],?_,?_⟩
 ·rw[CK,Ag]
  exact hown
 ·intro c hc
  rcases List.mem_append.1 hc with h | h
  ·exact hsz c h
  ·exact hn c h
 ·intro i cs y hi hy
  by_cases hlt:i<xs.length
  ·rw[A5 zD] at hi
   rw[A5 hlt] at hy;exact lift _ _ (hA i cs y hi hy)
  ·rw[Bo zD,hlen] at hi
   rw[Bo zD] at hy;exact lift _ _ (hx _ _ _ hi hy)
theorem Xs{α:Type}{A:Rp α}{c:Nat}{xs:List α}(h:(rSl sz A).r S w [.slice a n c] xs)(hone:∀cs x,A.r S w cs x→∀u∈cs,u.oneCell'=true):
  ∃cells:List (List Value),cells.length=xs.length∧(∀c∈cells,c.length=sz)∧(∀(i:Nat) cs x,cells[i]? =some cs→xs[i]? =some x→A.r S w cs x)∧(∀w':World,(∀q,S q→w'.heap[q]? =w.heap[q]?)→Src w' a xs.length sz cells.flatten)∧∀u∈cells.flatten,u.oneCell'=true:=by
 obtain⟨a',c',e,h1,h2,h3⟩:=h;simp at e;obtain⟨rfl,rfl,rfl⟩:=e;rcases h3 with rfl | ⟨b,off,rfl,hS,hr⟩
 ·exact⟨[],rfl,zN,zN,fun _ _=>⟨zN,.inl rfl⟩,zN⟩
 ·have hc:∀i:Fin xs.length,∃cs:List Value,cs.length=sz∧(∀j v,cs[j]? =some v→w.cell? ⟨b,off+i.1*sz+j,none⟩=some v)∧A.r S w cs xs[i]:=fun i=>hr i.1 xs[i] (AJ i.2)
  obtain⟨f,hf⟩:=Classical.axiomOfChoice hc;have hlen:∀c∈List.ofFn f,c.length=sz:=fun c hc=>by
   obtain⟨i,rfl⟩:=List.mem_ofFn.1 hc;exact (hf i).1
  refine⟨List.ofFn f,zN,hlen,fun i cs x hi hx=> ?_,fun w' hkp=>⟨?_,.inr ⟨b,off,rfl,fun j u hu=> ?_⟩⟩,fun u hu=> ?_⟩
  ·have hil:=(List.getElem?_eq_some_iff.1 hx).1
   rw[List.getElem?_ofFn,dif_pos hil] at hi;injection hi with hi;subst hi;rw[AJ hil] at hx;injection hx with hx;subst hx;exact (hf ⟨i,hil⟩).2.2
  ·rw[GJ sz _ hlen];simp
  ·have hj:=(List.getElem?_eq_some_iff.1 hu).1
   rw[GJ sz _ hlen,List.length_ofFn] at hj;have hs0:0<sz:=by exact (Cf sz).elim (fun h=>by subst h;simp at hj) id
   have hi:j/sz<xs.length:=by rw[Nat.div_lt_iff_lt_mul hs0];exact hj
   have hk:j%sz<(f ⟨j/sz,hi⟩).length:=by rw[(hf _).1];exact Nat.mod_lt _ hs0
   have e2:=FC sz (List.ofFn f) hlen (j/sz) (j%sz) (f ⟨j/sz,hi⟩) _ (by rw[List.getElem?_ofFn,dif_pos hi]) (AJ hk);have e3:j/sz*sz+j%sz=j:=by rw[Jl];exact Nat.div_add_mod j sz
   rw[e3,hu] at e2;have e4:=(hf ⟨j/sz,hi⟩).2.1 (j%sz) u (by rw[AJ hk,←e2]);rw[show off+j=off+j/sz*sz+j%sz by omega];exact (Bn (a:=⟨b,off+j/sz*sz+j%sz,none⟩) (hkp b hS)).trans e4
  ·obtain⟨c,hc,hu⟩:=List.mem_flatten.1 hu
   obtain⟨i,rfl⟩:=List.mem_ofFn.1 hc;exact hone _ _ (hf i).2.2 u hu
end Go.Bs
namespace Go.Proofs.YtfddhafbhceoaaaGreat
open Go.RowKit Go.Bs Go.Maps
variable{h:Bool}{k pos:Int}{B D P:List UInt8}{m:Msg}{L c g i p:Nat}{F S:Nat → Prop}{a:Option Addr}{s:Rs}{W w w1:World}
theorem AaP(cs:List Value)(x:EvX)(h:J0.r S w cs x):∀u∈cs,u.oneCell'=true:=by
 obtain⟨a1,c1,a2,c2,a3,c3,a4,c4,a5,c5,rfl,_⟩:=Lr h;exact Nj
theorem Kn.tch{w2:World}{vb vo:Value}{E:List EvX}(h:Kn w vb w1 vo E)(ht:Tch F w1 w2)(hF:∀q,w.heap.size≤q→q<w1.heap.size→¬F q):Kn w vb w2 vo E:=by
 obtain⟨cells,hc⟩:=h.own;exact⟨⟨cells,(hc.keep (fun b e=>ht.block b e.2.1 (hF b e.1 e.2.1)) (fun q e=>ht.block q (BI hc.1 q e).2 (hF q (BI hc.1 q e).1 (BI hc.1 q e).2))).mono fun b e=>⟨e.1,Aj e.2.1 ht.size,e.2.2⟩⟩,h.ne⟩
theorem LK(w:World)(B:List UInt8)(a:Option Addr)(n c:Nat)(hl:Ah.r (·<w.heap.size) w [.slice a n c] B)(hB:B.length≤100000000):
  Calls Tryz.prog 18 #[.slice a n c] w fun r w'=>∃vo,r=.returned vo∧Kx.r (fun q=>w.heap.size≤q∧q<w'.heap.size) w' [vo] ((O5 B).map Ev.x)∧Below w.heap.size w w':=by
 obtain⟨rfl,hmx,hcc,hcm⟩:=AT hl;obtain⟨j0,hj,hy0,hy1,hy2⟩:=A3 Vo;have HL:=hid hl;have HN:=hid (XL w);have hlen:=(PW B LU).2.2;have hcl:=UA (CL LU B).1;have hal:=hid (show (O5 B).map Ev.x=(CL LU B).2.map Ev.x++(Hx (CL LU B).1).2.map Ev.x by unfold O5;rw[BX]);have HF:=hid (fun (W:World) (h:Fh W w.heap.size (.slice none 0 0) LU) (hb:Ah.r (fun q=>q<W.heap.size∧q≠w.heap.size∧(Value.slice none 0 0).ownBlock≠some q) W [.slice a B.length c] B)=>Wc W h B a _ c hb hB (Am _) (Am _) (An _));have hfo:Vt LU B=CL LU B:=Ai rfl;rw[hfo] at HF;generalize CL LU B=R at*;obtain⟨s1,E1⟩:=R;dsimp only at hlen hcl hal HF;have HC:=hid (fun (W:World) (v:Value) (h:Fh W w.heap.size v s1)=>TR W h);generalize Hx s1=Q at*;obtain⟨s2,E2⟩:=Q;dsimp only at hcl hal HC;have hl1:(E1.map Ev.x).length≤B.length:=by rw[EP];exact hlen
 have hl2:(E2.map Ev.x).length≤1:=by rw[EP];exact hcl
 generalize E1.map Ev.x=L1 at*;generalize E2.map Ev.x=L2 at*;clear hl hlen hcl hfo;go_enter Tryz.func18,Tryz.ntmps18;go_wp2_with fail;refine HN.out.mono ?_;rintro r w1 ⟨rfl,hp1,hb1⟩;have hz1:w.heap.size<w1.heap.size:=hp1.blk.lt;have HD:=hid (show Ah.r (fun q=>q<w1.heap.size∧q≠w.heap.size∧(Value.slice none 0 0).ownBlock≠some q) w1 [.slice a B.length c] B from Ah.mono (Ah.keep HL.out fun q hq=>hb1.block q hq) fun q hq=>⟨zD,zD,fun e=>zAd⟩);have HP1:=hid hp1;have HB1:=hid hb1;clear hp1 hb1;go_wp2_with fail;refine (HF.out w1 HP1.out HD.out).mono ?_;rintro r w2 ⟨v2,vo,rfl,hp2,ho2,hv2,ht2⟩;have HP2:=hid hp2;have HO2:=hid ho2;have hz2:=ht2.size;have HB2:=hid (HB1.out.trans (ht2.Cw HB1.out.size fun b hb e=>by rcases e with e | e<;>first | omega | cases e));clear hp2 ho2 hv2 ht2;go_wp2_with fail;refine (HC.out w2 v2 HP2.out).mono ?_;rintro r w3 ⟨v3,vc,rfl,hr3,hp3,hv3,ht3⟩;have hz3:=ht3.size;have HB3:=hid (HB2.out.trans (ht3.Cw HB2.out.size fun b hb e=>zD));obtain⟨cells0,hc0⟩:=HO2.out.own;have hlo0:=BI hc0.1;clear hc0;obtain⟨cells,hc3⟩:=(HO2.out.tch ht3 (fun q h1 h2 e=>zD)).own;obtain⟨aO,cO,rfl⟩:=AD hc3.1;obtain⟨aC,cC,hfv,hr3',_⟩:=AN hr3;simp only[As,AM] at hfv;subst hfv;obtain⟨news,n1,n2,n3,n4,n5⟩:=Xs hr3' (fun cs x h=>AaP cs x h);have HN1:=hid n1;have HN2:=hid n2;have HN3:=hid n3;have HN4:=hid (n4 w3 (fun q _=>rfl));have HN5:=hid n5;have HC3:=hid hc3;have hlo:=hid hlo0;clear hlo0;clear n1 n2 n3 n4 n5 hc3 hr3 hr3' hp3 hv3 ht3 HO2 HP2 HP1;go_wp2_with (at_builtin;go_loud (refine Ar rfl _ _ _ rfl w1.heap.size 50 j0 (.agg Acv) 20 240 Tryz.underlying25 hj hy0 hy1 hy2 rfl zO (.slice aO L1.length cO) L1.length cells.flatten rfl HC3.out.1 aC L2.length cC news.flatten rfl HN4.out HN5.out zK zD zD ?_;intro v5 w5 hown5 hgrow5 hat5;have HO5:=hid (AY.app (F:=fun q=>w.heap.size≤q∧q<w3.heap.size) (HC3.out.mono fun b e=>⟨zD,e.2.1⟩) (fun b e=>e.2) HN1.out HN2.out (fun i cs y h1 h2=>J0.mono (HN3.out i cs y h1 h2) fun b e=>⟨⟨zD,e.2⟩,fun e2=>by have:=(hlo.out b e2).2;omega⟩) hown5 hgrow5 hat5);have HB5:=hid (Below.grown HB3.out hgrow5 zD (fun g e=>by have:=(hlo.out g e).1;omega));have hz5:=hgrow5.size;clear hown5 hgrow5 hat5))
 go_ret;rw[hal.out];exact⟨_,rfl,Kx.mono HO5.out.slice fun b e=>by
  rcases e with e | e
  ·omega
  ·have:=BI HO5.out.1 b e
   omega,HB5.out⟩
structure II(w:World)(g:Nat)(v:Value)(s:PSt)(l:Value)(E:List EvX)(W:World):Prop where
 par:Fh W g v s
 own:∃cells,AY (fun q=>w.heap.size≤q∧q<W.heap.size∧q≠g∧v.ownBlock≠some q) J0 w.heap.size 50 20 W l E cells
 ne:∀q,l.ownBlock=some q→w.heap.size≤q∧q<W.heap.size∧q≠g∧v.ownBlock≠some q
 lo:w.heap.size≤g
 below:Below w.heap.size w W
section
variable {w W W':World} {g:Nat} {v v' l l' vo:Value} {s s':PSt} {E E2:List EvX}
theorem II.read(h:II w g v s l E W):Kx.r (fun q=>w.heap.size≤q∧q<W.heap.size∧q≠g∧v.ownBlock≠some q) W [l] E:=by
 obtain⟨cells,hc⟩:=h.own;refine Kx.mono hc.slice fun b e=> ?_;rcases e with e | e
 ·exact e
 ·exact h.ne b e
theorem II.start(hp:Fh W g v s)(hl:w.heap.size≤g)(hb:Below w.heap.size w W):II w g v s (.slice none 0 0) [] W:=
 ⟨hp,⟨[],AY.nil⟩,fun q e=>zAd,hl,hb⟩
theorem II.later(h:II w g v s l E W)(hb:Below W.heap.size W W'):II w g v s l E W':=by
 obtain⟨cells,hc⟩:=h.own;exact⟨h.par.later hb,⟨cells,(hc.keep (fun b e=>hb.block b e.2.1) (fun q e=>hb.block q (h.ne q e).2.1)).mono fun b e=>⟨e.1,Aj e.2.1 hb.size,e.2.2⟩⟩,fun q e=>⟨(h.ne q e).1,Aj (h.ne q e).2.1 hb.size,(h.ne q e).2.2⟩,h.lo,Af hb h.below⟩
theorem II.fed(h:II w g v s l E W)(hp:Fh W' g v' s')(hv:v'.ownBlock=v.ownBlock∨∀q,v'.ownBlock=some q→W.heap.size≤q)(ht:Tch (fun q=>q=g∨v.ownBlock=some q) W W'):II w g v' s' l E W':=by
 obtain⟨cells,hc⟩:=h.own;have hne:∀q,q<W.heap.size→v.ownBlock≠some q→v'.ownBlock≠some q:=fun q h1 h2 e=>by
  rcases hv with h3 | h3
  ·exact h2 (h3 ▸ e)
  ·have:=h3 q e;omega
 refine⟨hp,⟨cells,(hc.keep (fun b e=>ht.block b e.2.1 (fun x=>x.elim e.2.2.1 e.2.2.2)) (fun q e=>ht.block q (h.ne q e).2.1 (fun x=>x.elim (h.ne q e).2.2.1 (h.ne q e).2.2.2))).mono fun b e=>⟨e.1,Aj e.2.1 ht.size,e.2.2.1,hne b e.2.1 e.2.2.2⟩⟩,fun q e=> ?_,h.lo,h.below.trans (ht.Cw h.below.size fun b hb e=> ?_)⟩
 ·obtain⟨h1,h2,h3,h4⟩:=h.ne q e
  exact⟨h1,Aj h2 ht.size,h3,hne q h2 h4⟩
 ·have hlo:=h.lo
  rcases e with e | e
  ·omega
  ·have:=(h.par.at_ b e).1
   omega
theorem II.app(h:II w g v s l E W){cells news:List (List Value)}(hc:AY (fun q=>w.heap.size≤q∧q<W.heap.size∧q≠g∧v.ownBlock≠some q) J0 w.heap.size 50 20 W l E cells)
 (n1:news.length=E2.length) (n2:∀c∈news,c.length=20) (n3:∀(i:Nat) cs y,news[i]? =some cs→E2[i]? =some y→J0.r (fun q=>(w.heap.size≤q∧q<W.heap.size∧q≠g∧v.ownBlock≠some q)∧l.ownBlock≠some q) W cs y)
 (hown:W'.ownsRow w.heap.size 50 20 l' (E.length+E2.length) (cells.flatten++news.flatten)) (hg:W.grownBy W' l.ownBlock) (hat:l'.ownBlock=l.ownBlock∨l'.ownBlock=some W.heap.size):II w g v s l' (E++E2) W':=by
 have hO:=AY.app hc (fun b e=>e.2.1) n1 n2 n3 hown hg hat;have hgl:=h.par.blk.lt;have hlt:∀q,l'.ownBlock=some q→w.heap.size≤q∧q<W'.heap.size:=BI hO.1;have hz:=hg.size;refine⟨⟨(hg.block g hgl fun e=>(h.ne g e.symm).2.2.1 rfl).trans h.par.blk,h.par.buf.PN fun q e=>hg.block q (h.par.at_ q e).2 fun e2=>(h.ne q e2.symm).2.2.2 e⟩,⟨_,hO.mono fun b e=>⟨e.1,Aj e.2.1 hz,e.2.2⟩⟩,fun q e=> ?_,h.lo,Below.grown h.below hg h.below.size (fun q e=>(h.ne q e).1)⟩;rcases hat with h1 | h1
 ·obtain⟨g1,g2,g3,g4⟩:=h.ne q (h1 ▸ e)
  exact⟨g1,Aj g2 hz,g3,g4⟩
 ·have h2:=hlt q e
  rw[h1] at e;have:=A7 e;subst this;exact⟨h2.1,h2.2,zD,fun e3=>by have:=(h.par.at_ _ e3).2;omega⟩
end
theorem WW{B:Nat}{E:Nat}{ds:Array Value}(h:Below B w W)(hB:B≤W.heap.size)(hE:B≤E):Below B w (W.setRow E ds):=
 h.trans ((Tch.row W E ds).Cw hB fun b _ e=>by have e:b=E:=e;omega)
structure Rs.fit(s:Rs)(L:Nat):Prop where
 ok:s.ok L
 inn:s.inn L
theorem Rs.CM{t:Rs}(h:t.fit L){c:Int}(hs:s.fit L)(hc:c≠0):(t.fail c s.p).fit L:=⟨Rs.Co h.ok hc,Rs.Ik h.inn zD (by have:=hs.ok.le;omega)⟩
variable {B:List UInt8} {s:Rs}
theorem Rs.EJ(h:s.fit B.length):(s.num B).1.fit B.length:=⟨Rs.Dn h.ok,Rs.T4 h.ok h.inn⟩
theorem Rs.KX(h:s.fit B.length)(n:Int):(s.take B n).1.fit B.length:=⟨Rs.IS h.ok n,Rs.Qy h.ok h.inn n⟩
theorem Rs.Lt(h:s.fit B.length):(s.byte B).1.fit B.length:=⟨Rs.Iq h.ok,Rs.Qy h.ok h.inn 1⟩
theorem Rs.Sa(h:s.fit B.length){m:Nat}:(s.most B m).1.fit B.length:=by
 unfold Rs.most;split
 ·exact Rs.CM (Rs.EJ h) h zD
 ·exact Rs.EJ h
theorem Rs.Je(h:s.fit B.length){m:Int}:(s.int B m).1.fit B.length:=by
 unfold Rs.int;split
 ·exact Rs.Sa h
 ·exact Rs.CM (Rs.EJ h) h zD
theorem Rs.SQ(h:s.fit B.length)(m:Int):(s.D5 B m).1.fit B.length:=Rs.KX (Rs.Je h) _
theorem Rs.WO(h:s.ok B.length){m:Int}:((s.D5 B m).2.length:Int)≤(s.D5 B m).1.p:=by
 have h1:=Rs.FU h (m:=m);have h2:=h1.le;unfold Rs.D5;generalize (s.int B m).1=u at*;generalize ((s.int B m).2:Int)=n;unfold Rs.take;cases hk:(u.skip B.length n).1
 ·simp
 ·have h3:=Rs.FG hk
  rw[h3.2.2.2];dsimp only;rw[Ai rfl,M9];omega
theorem Rs.U8(h:s.fit B.length)(n:Nat):(s.unp B n).1.fit B.length:=by
 have hb:=Rs.SQ h 1048576;have hr:=Rs.WO h.ok (m:=1048576);have hx:=Mb (s.D5 B 1048576).2 n;have hle:=hb.ok.le;unfold Rs.unp;split
 ·split
  ·split
   ·exact Rs.CM hb hb zD
   ·exact hb
  ·exact⟨Rs.Co hb.ok zL,Rs.Ik hb.inn zD zD⟩
 ·exact hb
theorem Rs.Wk(h:s.fit B.length)(most:Int):(s.loose B most).1.fit B.length:=by
 have hb:=Rs.Lt (B:=B) (Rs.Je h (m:=min most 1048576));have hp:((s.int B (min most 1048576)).1.byte B).1.k=0→1≤((s.int B (min most 1048576)).1.byte B).1.p:=fun h0=>by
  unfold Rs.byte at h0 ⊢;cases hk:((s.int B (min most 1048576)).1.skip B.length 1).1
  ·exact absurd h0 (Rs.IT hk).1
  ·rw[(Rs.FG hk).2.2.2]
   dsimp only;omega
 unfold Rs.loose;split
 ·rename_i h0
  split
  ·split
   ·exact Rs.KX hb _
   ·exact Rs.KX hb _
  ·split
   ·split
    ·exact Rs.U8 hb _
    ·exact Rs.U8 hb _
   ·have:=hp h0
    have:=hb.ok.le;exact⟨Rs.Co hb.ok zD,Rs.Ik hb.inn zD zD⟩
 ·exact hb
theorem Aaa(h:s.fit B.length):(Db B s).1.fit B.length:=by
 have hl:=Rs.Wk h 1048576;unfold Db Rs.strict;dsimp only;split
 ·split
  ·exact hl
  ·exact Rs.CM hl hl zD
 ·exact hl
theorem Rs.AaO(h:s.fit B.length):(s.fin B.length).fit B.length:=by
 unfold Rs.fin;split
 ·exact Rs.CM h h zD
 ·exact h
theorem Rs.Uw(h:s.fit B.length):(s.ep B).1.fit B.length:=by
 have h2:=Rs.EJ h;unfold Rs.ep;split
 ·split
  ·exact h2
  ·exact Rs.CM h2 h zD
 ·exact h2
theorem Rs.Abq(h:s.fit B.length):(s.po B).1.fit B.length:=by
 have h2:=Rs.EJ h;unfold Rs.po;split
 ·split
  ·exact h2
  ·exact Rs.CM h2 h zD
 ·exact h2
theorem Rs.Abh(h:s.fit B.length):(s.tl B).1.fit B.length:=by
 have h2:=Rs.EJ h;unfold Rs.tl;split
 ·split
  ·exact h2
  ·exact Rs.CM h2 h zD
 ·exact h2
theorem Rs.Xz(h:s.fit B.length):(s.seal_ B).1.fit B.length:=by
 unfold Rs.seal_;dsimp only;split<;>exact Rs.Abh (Rs.Sa (Rs.Uw h))
theorem Rs.Ld{m:Int}(h:s.fit B.length):(s.many B m).1.fit B.length:=by
 have h2:=Rs.Je h (m:=m);unfold Rs.many;dsimp only;split
 ·exact Rs.CM h2 h zD
 ·exact h2
theorem Rs.NT:∀(n:Nat) (s:Rs) (out:List Int),s.fit B.length→(Rs.EA B n s out).1.fit B.length
 | 0,s,out,h=>h
 | n+1,s,out,h=>by
  have h2:=Rs.EJ (B:=B) h;unfold Rs.EA;split
  ·split
   ·exact Rs.CM h2 h zD
   ·exact Rs.NT n _ _ h2
  ·exact h2
theorem Rs.Aar{O:List (List Int)}(h:s.fit B.length):(s.Fb B O).1.fit B.length:=by
 have h1:=Rs.Ld (m:=8) h;have h2:=Rs.NT (B:=B) (s.many B 8).2 (s.many B 8).1 [] h1;unfold Rs.Fb;dsimp only;split
 ·split
  ·exact Rs.CM h2 h1 zD
  ·split
   ·exact h2
   ·exact Rs.CM h2 h1 zD
 ·exact h2
theorem Rs.Rv:∀(n:Nat) (s:Rs) (out:List (List Int)),s.fit B.length→(Rs.Ek B n s out).1.fit B.length
 | 0,s,out,h=>h
 | n+1,s,out,h=>by
  have h2:=Rs.Aar (B:=B) (O:=out) h;unfold Rs.Ek;split
  ·exact Rs.Rv n _ _ h2
  ·exact h2
theorem Rs.Xr{lo:Int}(h:s.fit B.length):(s.span B lo).1.fit B.length:=by
 unfold Rs.span;dsimp only;have h0:(if 4611686018427387904<lo then s.fail 3 s.p else s).fit B.length:=by
  split
  ·exact Rs.CM h h zD
  ·exact h
 generalize (if 4611686018427387904<lo then s.fail 3 s.p else s)=s0 at*;split
 ·exact Rs.CM (Rs.EJ h0) h zD
 ·exact Rs.EJ h0
theorem Rs.Ti{lo:Int}(h:s.fit B.length):(s.BB B lo).1.fit B.length:=by
 have h2:=Rs.Rv (B:=B) ((s.span B lo).1.many B 8).2 _ [] (Rs.Ld (m:=8) (Rs.Xr (lo:=lo) h));unfold Rs.BB;dsimp only;split<;>exact h2
theorem Rs.Ms:∀(n:Nat) (s:Rs) (lo:Int) (out:List BV),s.fit B.length→(Rs.BJ B n s lo out).1.fit B.length
 | 0,s,lo,out,h=>h
 | n+1,s,lo,out,h=>by
  have h2:=Rs.Ti (B:=B) (lo:=lo) h;unfold Rs.BJ;split
  ·exact Rs.Ms n _ _ _ h2
  ·exact h2
theorem Rs.XO(h:s.fit B.length):(s.Ds B).1.fit B.length:=by
 have h2:=Rs.Ms (B:=B) ((s.ep B).1.many B 64).2 _ 0 [] (Rs.Ld (m:=64) (Rs.Uw h));unfold Rs.Ds;dsimp only;split
 ·split
  ·exact h2
  ·exact h2
 ·split
  ·exact Rs.CM h2 h2 zD
  ·exact Rs.CM h2 h2 zD
theorem Rs.PZ:∀(n:Nat) (s:Rs) (below:Int) (out:List Int),s.fit B.length→(Rs.Fg B n s below out).1.fit B.length
 | 0,s,below,out,h=>h
 | n+1,s,below,out,h=>by
  have h2:=Rs.EJ (B:=B) h;simp only[Rs.Fg];split
  ·split
   ·exact Rs.CM h2 h zD
   ·exact Rs.PZ n _ _ _ h2
  ·exact h2
theorem Rs.Tj{prev:Option Int}(h:s.fit B.length):(s.stream B prev).1.fit B.length:=by
 unfold Rs.stream;cases prev with
 | none=>exact Rs.EJ h
 | some q=>
  dsimp only;split
  ·exact Rs.CM (Rs.EJ h) h zD
  ·exact Rs.EJ h
theorem Rs.Oe:∀(n:Nat) (s:Rs) (prev:Option Int) (out:List BH),s.fit B.length→(Rs.DS B pos n s prev out).1.fit B.length
 | 0,s,prev,out,h=>h
 | n+1,s,prev,out,h=>by
  have h2:((s.stream B prev).1.delta B pos 4).1.fit B.length:=Rs.PZ _ _ _ _ (Rs.Je (Rs.Tj h));simp only[Rs.DS];split
  ·exact Rs.Oe n _ _ _ h2
  ·exact h2
theorem Rs.Aao(h:s.fit B.length):(s.stt B k).1.fit B.length:=by
 unfold Rs.stt;dsimp only;split
 ·exact Rs.Lt h
 ·exact Rs.CM (Rs.Lt h) h zD
theorem Rs.GA{α:Type}{f:Rs→Rs × α}{z:α}(hs:s.fit L)(hf:(f s).1.fit L):(Rs.part h s f z).1.fit L:=by
 unfold Rs.part;split
 ·exact hf
 ·exact hs
theorem Rs.W4(h:s.fit B.length):(s.ahead B k).1.fit B.length:=by
 unfold Rs.ahead;have h1:(Rs.part (AE k 1) s (Rs.Fk B) 0).1.fit B.length:=Rs.GA h (Rs.Abq h);have h2:(Rs.part (AE k 2) (Rs.part (AE k 1) s (Rs.Fk B) 0).1 (Rs.cnt B) 0).1.fit B.length:=Rs.GA h1 (Rs.Ld h1);have h3:=Rs.GA (h:=AE k 4) (z:=0) h2 (Rs.Aao (k:=k) h2);have h4:=Rs.GA (h:=AE k 8) (f:=Rs.GP B) (z:=[]) h3 (Rs.NT _ _ _ (Rs.Je h3));exact Rs.GA h4 (Rs.Oe _ _ _ _ (Rs.Je h4))
theorem Rs.YZ(h:s.fit B.length):(s.body B (Db B) k).1.fit B.length:=by
 unfold Rs.body;split
 ·have h1:=Rs.W4 (k:=k) h
  have h2:=Rs.GA (h:=Bw k (s.ahead B k).2.state) (f:=Db B) (z:=([],true)) h1 (Aaa h1);have h3:=Rs.GA (h:=AE k 64) (z:=Dk) h2 (Rs.Xz h2);have h4:=Rs.GA (h:=AE k 128) (z:=DE) h3 (Rs.XO h3);dsimp only;split
  ·exact h4
  ·exact h4
 ·exact Rs.CM h h zD
theorem Rs.KP(L:Nat):(⟨0,0,0⟩:Rs).fit L:=⟨⟨Am _,fun _=>rfl⟩,⟨zN,zN⟩⟩
theorem XX(P:List UInt8):0≤(ET P (Db P) flS).2.2.2∧(ET P (Db P) flS).2.2.2≤P.length:=by
 have h0:=Rs.KP P.length;have h1:=Rs.Lt (B:=P) h0;unfold ET;dsimp only;generalize (⟨0,0,0⟩:Rs).byte P=U at*;obtain⟨u,y⟩:=U;dsimp only at h1 ⊢;have h2:(u.kd (y.toNat:Int)).fit P.length:=by
  unfold Rs.kd;split
  ·exact h1
  ·exact Rs.CM (s:=⟨0,0,0⟩) h1 h0 zD
 have h3:=Rs.EJ (Rs.Uw h2);have h4:=Rs.AaO (Rs.YZ (k:=(y.toNat:Int)) h3);split
 ·split
  ·exact⟨Int.le_refl _,Int.natCast_nonneg _⟩
  ·exact h4.inn
 ·exact h3.inn
theorem Rs.PO(h:s.fit B.length)(m:Int):(s.frame B m).1.fit B.length:=by
 have h1:=Rs.SQ h (min m 2097152);have h2:=Rs.KX h1 4;unfold Rs.frame;dsimp only;split
 ·exact h2
 ·exact Rs.CM h2 h1 zD
theorem Rs.Nv{n:Int}(h:(s.take B n).1.k=0):B.drop s.p=(s.take B n).2++B.drop (s.take B n).1.p∧(s.take B n).1.p=s.p+n.toNat∧((s.take B n).2.length=n.toNat):=by
 have h0:=(Rs.Ha h).2.2;unfold Rs.take at h h0 ⊢;cases hk:(s.skip B.length n).1
 ·exact absurd h (Rs.IT hk).1
 ·have h3:=Rs.FG hk
  rw[hk] at h0;rw[h3.2.2.2];refine⟨?_,rfl,h0⟩;dsimp only;rw[Ai rfl,←LA,Ce]
theorem LC{x:Int}(h1: -9223372036854775808≤x)(h2:x≤9223372036854775807):wrap64 x=x:=by simp only[wrap64];omega
theorem ML{t:Rs}(h:(⟨0,0,0⟩:Rs).frame B 2097152=(t,P))(hk:t.k=0):B=Bf P++B.drop t.p∧t.p=(Bf P).length∧P.length≤2097152∧t.p≤B.length:=by
 have hok:=(Rs.PO (Rs.KP B.length) 2097152).ok;rw[h] at hok;have hle:=hok.le;unfold Rs.frame at h;dsimp only at h;by_cases hc:CQ ((⟨0,0,0⟩:Rs).D5 B (min 2097152 2097152)).2=EF (((⟨0,0,0⟩:Rs).D5 B (min 2097152 2097152)).1.take B 4).2
 ·rw[Ai hc] at h
  by_cases hz:(((⟨0,0,0⟩:Rs).D5 B (min 2097152 2097152)).1.take B 4).1.k=0
  ·rw[Ai hz] at h
   obtain⟨f1,f2,f3⟩:=Rs.Nv hz;have hb:=(Rs.Ha hz).2.1;cases h;dsimp only at hk hle;unfold Rs.D5 at hk hle hb f1 f2 f3 hc ⊢;have hi:=(Rs.Ha hb).2.1;obtain⟨b1,b2,b3⟩:=Rs.Nv hb;obtain⟨i1,i2,_⟩:=Rs.Hf (B:=B) (s:=⟨0,0,0⟩) ⟨Am _,fun _=>rfl⟩ hi;rw[CO] at i1;generalize (⟨0,0,0⟩:Rs).int B (min 2097152 2097152)=I at*;obtain⟨u,n⟩:=I;dsimp only at*;generalize u.take B (n:Int)=J at*;obtain⟨v,D⟩:=J;dsimp only at*;generalize v.take B 4=K at*;obtain⟨x,C⟩:=K;dsimp only at*;have hn:D.length=n:=zD;have h4:C.length=4:=zD;have hC:CW 4 (CQ D)=C:=by
    rw[hc,←h4];exact MP C
   have hB:B=Bf D++B.drop x.p:=by
    unfold Bf C3;rw[hn,hC,Ao,Ao,←f1,←b1];exact i1
   refine⟨hB,?_,zD,hle⟩;have:=GL List.length hB;rw[Ag,Jm] at this;omega
  ·rw[Ak hz] at h
   cases h;exact absurd hk hz
 ·rw[Ak hc] at h
  cases h;exact absurd hk (Rs.BE zD)
theorem Wv(h:(CC D).2.2.2.1=0):DJ (CC D).1=true∧D=Bf (CA (CC D).1)++D.drop (Bf (CA (CC D).1)).length∧(CA (CC D).1).length≤2097152:=by
 unfold CC KH at h ⊢;generalize hF:(⟨0,0,0⟩:Rs).frame D 2097152=F at*;obtain⟨t,P⟩:=F;unfold Lm at h ⊢;dsimp only at h ⊢;by_cases hk:t.k=0
 ·rw[Ai hk] at h ⊢
  dsimp only at h ⊢;rw[Ai rfl] at h ⊢;obtain⟨c1,c2,c3,c4⟩:=ML hF hk;generalize ha:ET P (Db P) flS=A at*;generalize hb:ET P (F8 P) flL=C;obtain⟨m1,q1,k1,f1⟩:=A;obtain⟨m2,q2,k2,f2⟩:=C;have hO:=(XU ha hb).1;dsimp only at h ⊢;by_cases h1:k1=0
  ·rw[Ai h1]
   dsimp only;obtain⟨_,_,_,o1,o2⟩:=hO h1;rw[o2,←c2];exact⟨o1,c1,c3⟩
  ·rw[Ak h1] at h
   exact absurd h h1
 ·rw[Ak hk] at h
  dsimp only at h;rw[Ak hk] at h;exact absurd h hk
theorem AbF:0≤(CC D).2.2.2.2∧(CC D).2.2.2.2≤D.length:=by
 have hfit:=Rs.PO (Rs.KP D.length) 2097152;unfold CC KH;generalize hF:(⟨0,0,0⟩:Rs).frame D 2097152=F at*;obtain⟨t,P⟩:=F;unfold Lm;dsimp only at hfit ⊢;by_cases hk:t.k=0
 ·rw[Ai hk]
  dsimp only;rw[Ai rfl];obtain⟨c1,c2,c3,c4⟩:=ML hF hk;have hp:=XX P;have hl:=EX P;have hl2:=D8 P;have hv:=AZ P.length;by_cases h1:(ET P (Db P) flS).2.2.1=0
  ·rw[Ai h1]
   exact⟨Int.le_refl _,Int.natCast_nonneg _⟩
  ·rw[Ak h1]
   dsimp only;have hw:wrap64 ((ET P (Db P) flS).2.2.2+((t.p:Int)-4-(P.length:Int)))=(ET P (Db P) flS).2.2.2+((t.p:Int)-4-(P.length:Int)):=LC zD zD;rw[hw];omega
 ·rw[Ak hk]
  dsimp only;rw[Ak hk];exact hfit.inn
theorem AaJ(D:List UInt8):0≤(Ca D).1.f∧(Ca D).1.f≤D.length:=(Rs.Je (Rs.KP D.length)).inn
theorem NY(S:List UInt8)(hS:S.length≤1000000000):∀(f p:Nat),p≤S.length→S.length-p<f→∃(l:List Msg) (b:List Ev),
  (DP S f p).1=Eg p l++b∧(∀m∈l,DJ m=true)∧S.drop p=B9 l++S.drop (DP S f p).2.1∧(DP S f p).2.1=p+(B9 l).length∧(DP S f p).2.1≤S.length∧
  ((DP S f p).2.2=0→b=[])∧((DP S f p).2.2≠0→∃x k:Int,b=[FK x k]∧((DP S f p).2.1:Int)≤x)
 | 0,p,hp,hf=>absurd hf (Nat.not_lt_zero _)
 | f+1,p,hp,hf=>by
  rw[Hn];have e0:B9 []=[]:=rfl;by_cases h0:p<S.length
  ·rw[Ai h0]
   have hDl:(S.drop p).length=S.length-p:=Jm;have hds:∀j,(S.drop p).drop j=S.drop (p+j):=fun j=>LA;generalize hD:S.drop p=D at*;by_cases h1:AP D=0∧(Ca D).1.k≠1
   ·rw[Ai h1]
    have:=AaJ D;have hw:wrap64 ((Ca D).1.f+(p:Int))=(Ca D).1.f+(p:Int):=LC zD zD;exact⟨[],_,rfl,fun m hm=>absurd hm zN,zBi,rfl,hp,fun h=>absurd (show (4:Int)=0 from h) zO,fun _=>⟨_,_,rfl,by rw[hw];dsimp only;omega⟩⟩
   ·rw[Ak h1]
    by_cases h2:AP D=0∨D.length<AP D
    ·rw[Ai h2]
     exact⟨[],[],rfl,fun m hm=>absurd hm zN,zBi,rfl,hp,fun _=>rfl,fun h=>absurd rfl h⟩
    ·rw[Ak h2]
     have hn:0<AP D:=zD;have hk:=IN.1 hn;have hle:AP D≤D.length:=zD;have hv3:(Az (Ca D).2).length≤AP D:=by
      unfold AP;rw[Ai hk];omega
     have hl:(D.take (AP D)).length=AP D:=Z4;have hwt:=FF (by rw[JI hk hv3];decide:(Ca (D.take (AP D))).1.k≠1);by_cases h3:(CC (D.take (AP D))).2.2.2.1=0
     ·rw[Ai h3]
      obtain⟨g1,g2,g3⟩:=Wv h3;have hfr:=IP (rest:=(D.take (AP D)).drop (Bf (CA (CC (D.take (AP D))).1)).length) g3;rw[←g2,hwt] at hfr;have hfl:=hfr.1;have g4:D.take (AP D)=Bf (CA (CC (D.take (AP D))).1):=by
       have:(D.take (AP D)).drop (Bf (CA (CC (D.take (AP D))).1)).length=[]:=List.drop_eq_nil_of_le zD;rw[this,BK] at g2;exact g2
      obtain⟨l,b,i1,i2,i3,i4,i5,i6,i7⟩:=NY S hS f (p+AP D) zD zD;refine⟨(CC (D.take (AP D))).1::l,b,?_,?_,?_,?_,i5,i6,i7⟩
      ·dsimp only
       rw[i1,show Eg p ((CC (D.take (AP D))).1::l)=DV p (CC (D.take (AP D))).1::Eg (p+(Bf (CA (CC (D.take (AP D))).1)).length) l from rfl,←hfl];rfl
      ·intro m hm
       rcases List.mem_cons.1 hm with rfl | hm
       ·exact g1
       ·exact i2 m hm
      ·have e:B9 ((CC (D.take (AP D))).1::l)=Bf (CA (CC (D.take (AP D))).1)++B9 l:=by simp[B9]
       dsimp only;rw[e,Ao,←i3,←hds,←g4,Ce]
      ·have e:B9 ((CC (D.take (AP D))).1::l)=Bf (CA (CC (D.take (AP D))).1)++B9 l:=by simp[B9]
       dsimp only;rw[i4,e,Ag];omega
     ·rw[Ak h3]
      have:=AbF (D:=D.take (AP D));have hw:wrap64 ((CC (D.take (AP D))).2.2.2.2+(p:Int))=(CC (D.take (AP D))).2.2.2.2+(p:Int):=LC zD zD;exact⟨[],_,rfl,fun m hm=>absurd hm zN,zBi,rfl,hp,fun h=>absurd (show (4:Int)=0 from h) zO,fun _=>⟨_,_,rfl,by rw[hw];dsimp only;omega⟩⟩
  ·rw[Ak h0]
   exact⟨[],[],rfl,fun m hm=>absurd hm zN,rfl,rfl,hp,fun _=>rfl,fun h=>absurd rfl h⟩
theorem RY{S:List UInt8}{f:Nat}(hp:p<S.length)(h:Hy (S.drop p)):DP S (f+1) p=([],p,0):=by
 rw[Hn,Ai hp];rcases h with h | ⟨h1,h2⟩
 ·rw[Ak (fun hh=>hh.2 h),Ai (.inl (IM h))]
 ·rw[Ak (fun hh=>zD),Ai (.inr h2)]
theorem Wb(hN:M8 m)(hR:DJ m=true)(hs:inU m.seq):
  O5 (Bf (CA m)++(Bf (CA m)).take ((Bf (CA m)).length-1))=[DV 0 m,⟨3,((Bf (CA m)++(Bf (CA m)).take ((Bf (CA m)).length-1)).length:Nat),1,El⟩]:=by
 have h5:=KI (CA m);have hw:=(IP (rest:=[]) (LN hR)).1;rw[BK] at hw;have hall:B9 [m]=Bf (CA m):=by simp[B9]
 generalize hF:Bf (CA m)=F at*;have hq:Hy (F.take (F.length-1)):=TP hw zD;have hTl:(F.take (F.length-1)).length=F.length-1:=Z4;generalize F.take (F.length-1)=T at*;have h:=LL (F++T) [m] T ((F++T).length+1) 0 (fun x hx=>by
  rw[De] at hx;subst hx;exact⟨hN,hR,hs⟩) (by rw[CO,hall]) (Am _) zN
 have hd:(F++T).drop F.length=T:=List.drop_left;have hlt:F.length<(F++T).length:=ZI;obtain⟨g,hg⟩:∃g,(F++T).length+1-[m].length=g+1:=⟨(F++T).length-1,zH⟩;have e0:DP (F++T) (g+1) (0+(B9 [m]).length)=([],F.length,0):=by
  rw[hall,A1];exact RY hlt (by rw[hd];exact hq)
 rw[hg,e0] at h;rw[Rc];unfold YL;rw[h];dsimp only;rw[Ai ⟨rfl,rfl⟩,Ai hlt,BK];rfl
def Aa0(m:Msg):Prop:=AE m.kind 8=false∧AE m.kind 16=false∧AE m.kind 64=false∧AE m.kind 128=false∧Bw m.kind m.state=false
theorem WM(w:World){g base most:Nat}{J:List UInt8}{a:Option Addr}(h:BQ w g base most J a c)(m:Msg)(a1:Option Addr)(c1:Nat)(a2:Option Addr)(c2:Nat)(a3:Option Addr)(c3:Nat)(a4:Option Addr)(c4:Nat)(hd:A9 (fun q=>q<w.heap.size∧¬Dr g a q) w m a1 c1 a2 c2 a3 c3 a4 c4)
 (hbk:∀x∈m.links,x.backs.length≤1000000) (hR:Gl m=true) (hno:Aa0 m) (hfit:J.length+(D4 m).length≤most) (hln:J.length+(D4 m).length≤100000000000000):
  Calls Tryz.prog 234 #[.pointer (some ⟨g,0,none⟩),.agg Acq] w fun r w'=>r=.returned (.tuple #[])∧At w g base most (J++D4 m) a w':=by
 have hml:(D4 m).length=(AQ (AE m.kind 1) (Az m.pos.toNat)).length+(AQ (AE m.kind 2) (Az m.count.toNat)).length+(AQ (AE m.kind 4) ([UInt8.ofNat m.state.toNat])).length+(AQ (AE m.kind 8) (Dw m.streams)).length+(AQ (AE m.kind 16) (Ci m.pos m.links)).length+(AQ (Bw m.kind m.state) (Bk m.data)).length+(AQ (AE m.kind 64) (Dy m.sea)).length+(AQ (AE m.kind 128) (Dz m.proj)).length:=by simp only[D4,Ag]
 rw[hml] at hfit hln;have hmb:D4 m=AQ (AE m.kind 1) (Az m.pos.toNat)++AQ (AE m.kind 2) (Az m.count.toNat)++AQ (AE m.kind 4) ([UInt8.ofNat m.state.toNat])++AQ (AE m.kind 8) (Dw m.streams)++AQ (AE m.kind 16) (Ci m.pos m.links)++AQ (Bw m.kind m.state) (Bk m.data)++AQ (AE m.kind 64) (Dy m.sea)++AQ (AE m.kind 128) (Dz m.proj):=rfl;have HRT:=hid (fun (W:World) (hW:Below w.heap.size w W)=>Jh m a1 c1 a2 c2 a3 c3 a4 c4 W (A9.lift (A9.low hd) hW) (fun x hx=>zA5));rw[hR] at HRT;have HHD:=hid (fun (W:World)=>G6 m a1 c1 a2 c2 a3 c3 a4 c4 W);have HM:=hid (EB hR);have HBK:=hid hbk;have HNO:=hid hno;have HP:=hid h;have HD:=hid hd;have HLT:=hid (fun q (hq:Dr g a q)=>(h.En hq).2);have hdl:=HM.out.data;clear h hd hR hbk hml hno;go_enter Tryz.func234,Tryz.ntmps234;go_wp2_with fail;refine (HRT.out _ zA).mono ?_;rintro r w1 ⟨rfl,hb1⟩;have hbw1:Below w.heap.size w w1:=zA;have hI1:GY w1 g base most J a c w.heap.size (w.heap.size+1) m a1 c1 a2 c2 a3 c3 a4 c4:=⟨HP.out.later hbw1,Blk.later ((Blk.newAt w 202 #[.pointer (some ⟨g,0,none⟩)] rfl).alloc _) hb1,Blk.later (Blk.newAt _ 45 #[.int .i64 m.kind,.int .u64 m.epoch,.int .u64 m.seq,.int .u64 m.pos,.int .i64 m.count,.int .i64 m.state,.slice a1 m.streams.length c1,.slice a2 m.links.length c2,.slice a3 m.data.length c3,.int .u64 m.sea.epoch,.int .u64 m.sea.node,.int .u64 m.sea.tail,.int .u64 m.proj.epoch,.slice a4 m.proj.stripes.length c4] zN) hb1,fun hf=>ZT,fun hf=>ZT,A9.tr (fun A cs x hx=>FI hbw1 hx) HD.out⟩;have HBW1:=hid hbw1;clear hb1 hbw1;have q1_0:w1.cell? ⟨w.heap.size,0,none⟩=some (.pointer (some ⟨g,0,none⟩)):=hI1.pa.cell 0;have HC1:=hid (RW hI1 (Az m.pos.toNat) (fun hh W hW=>Vh (hI1.later hW) (HM.out.pos hh) ZJ ZJ));have HI1:=hid hI1;clear hI1;go_wp2_with fail;refine HC1.out.mono ?_;rintro r w2 ⟨rfl,hst⟩;obtain⟨a2',c2',hI2,ht,ha⟩:=HI1.out.step hst;have HT1:=hid (And.intro ht ha);clear hst ht ha;have q2_0:w2.cell? ⟨w.heap.size,0,none⟩=some (.pointer (some ⟨g,0,none⟩)):=hI2.pa.cell 0;have HC2:=hid (RV hI2 (Az m.count.toNat) (fun hh W hW=>Pu (hI2.later hW) (HM.out.count hh) ZH ZH));have HI2:=hid hI2;clear hI2;go_wp2_with fail;refine HC2.out.mono ?_;rintro r w3 ⟨rfl,hst⟩;obtain⟨a3',c3',hI3,ht,ha⟩:=HI2.out.step hst;have HT2:=hid (And.intro ht ha);clear hst ht ha;have q3_0:w3.cell? ⟨w.heap.size,0,none⟩=some (.pointer (some ⟨g,0,none⟩)):=hI3.pa.cell 0;have HC3:=hid (RU hI3 ([UInt8.ofNat m.state.toNat]) (fun hh W hW=>Pr (hI3.later hW) zCf ZE ZE));have HI3:=hid hI3;clear hI3;go_wp2_with fail;refine HC3.out.mono ?_;rintro r w4 ⟨rfl,hst⟩;obtain⟨a4',c4',hI4,ht,ha⟩:=HI3.out.step hst;have HT3:=hid (And.intro ht ha);clear hst ht ha;have q4_0:w4.cell? ⟨w.heap.size,0,none⟩=some (.pointer (some ⟨g,0,none⟩)):=hI4.pa.cell 0;have HC4:=hid (RT hI4 (Dw m.streams) (fun hh=>absurd hh (by rw[HNO.out.1];decide)));have HI4:=hid hI4;clear hI4;go_wp2_with fail;refine HC4.out.mono ?_;rintro r w5 ⟨rfl,hst⟩;obtain⟨a5',c5',hI5,ht,ha⟩:=HI4.out.step hst;have HT4:=hid (And.intro ht ha);clear hst ht ha;have q5_0:w5.cell? ⟨w.heap.size,0,none⟩=some (.pointer (some ⟨g,0,none⟩)):=hI5.pa.cell 0;have HC5:=hid (Pt hI5 (Ci m.pos m.links) (fun hh=>absurd hh (by rw[HNO.out.2.1];decide)));have HI5:=hid hI5;clear hI5;go_wp2_with fail;refine HC5.out.mono ?_;rintro r w6 ⟨rfl,hst⟩;obtain⟨a6',c6',hI6,ht,ha⟩:=HI5.out.step hst;have HT5:=hid (And.intro ht ha);clear hst ht ha;have q6_0:w6.cell? ⟨w.heap.size,0,none⟩=some (.pointer (some ⟨g,0,none⟩)):=hI6.pa.cell 0;have z6_0:w6.cell? ⟨w.heap.size+1,0,none⟩=some (.int .i64 m.kind):=hI6.pb.cell 0;have z6_1:w6.cell? ⟨w.heap.size+1,1,none⟩=some (.int .u64 m.epoch):=hI6.pb.cell 1;have z6_2:w6.cell? ⟨w.heap.size+1,2,none⟩=some (.int .u64 m.seq):=hI6.pb.cell 2;have z6_3:w6.cell? ⟨w.heap.size+1,3,none⟩=some (.int .u64 m.pos):=hI6.pb.cell 3;have z6_4:w6.cell? ⟨w.heap.size+1,4,none⟩=some (.int .i64 m.count):=hI6.pb.cell 4;have z6_5:w6.cell? ⟨w.heap.size+1,5,none⟩=some (.int .i64 m.state):=hI6.pb.cell 5;have z6_6:w6.cell? ⟨w.heap.size+1,6,none⟩=some (.slice a1 m.streams.length c1):=hI6.pb.cell 6;have z6_7:w6.cell? ⟨w.heap.size+1,7,none⟩=some (.slice a2 m.links.length c2):=hI6.pb.cell 7;have z6_8:w6.cell? ⟨w.heap.size+1,8,none⟩=some (.slice a3 m.data.length c3):=hI6.pb.cell 8;have z6_9:w6.cell? ⟨w.heap.size+1,9,none⟩=some (.int .u64 m.sea.epoch):=hI6.pb.cell 9;have z6_10:w6.cell? ⟨w.heap.size+1,10,none⟩=some (.int .u64 m.sea.node):=hI6.pb.cell 10;have z6_11:w6.cell? ⟨w.heap.size+1,11,none⟩=some (.int .u64 m.sea.tail):=hI6.pb.cell 11;have z6_12:w6.cell? ⟨w.heap.size+1,12,none⟩=some (.int .u64 m.proj.epoch):=hI6.pb.cell 12;have z6_13:w6.cell? ⟨w.heap.size+1,13,none⟩=some (.slice a4 m.proj.stripes.length c4):=hI6.pb.cell 13;have HI6:=hid hI6;clear hI6;go_wp2_with fail;refine (HHD.out _).mono ?_;rintro r v6 ⟨rfl,hb6⟩;have hJ6:=HI6.out.later hb6;clear z6_0 z6_1 z6_2 z6_3 z6_4 z6_5 z6_6 z6_7 z6_8 z6_9 z6_10 z6_11 z6_12 z6_13;have u6_0:v6.cell? ⟨w.heap.size,0,none⟩=some (.pointer (some ⟨g,0,none⟩)):=hJ6.pa.cell 0;have u6_8:v6.cell? ⟨w.heap.size+1,8,none⟩=some (.slice a3 m.data.length c3):=hJ6.pb.cell 8;have HK6:Hid (Bw m.kind m.state=true→Calls Tryz.prog 276 #[.pointer (some ⟨g,0,none⟩),.slice a3 m.data.length c3] v6 fun r w'=>r=.returned (.tuple #[])∧At v6 g base most (J++AQ (AE m.kind 1) (Az m.pos.toNat)++AQ (AE m.kind 2) (Az m.count.toNat)++AQ (AE m.kind 4) ([UInt8.ofNat m.state.toNat])++AQ (AE m.kind 8) (Dw m.streams)++AQ (AE m.kind 16) (Ci m.pos m.links)++Bk m.data) a6' w'):=hid (fun hh=>absurd hh (by rw[HNO.out.2.2.2.2];decide));have HJ6:=hid hJ6;have HB6:=hid hb6;clear hJ6 hb6;go_upto_if 27 with (fail);go_cut [27] from 28 to 31 (fun s27 V=>∃a' c',GY V g base most (J++AQ (AE m.kind 1) (Az m.pos.toNat)++AQ (AE m.kind 2) (Az m.count.toNat)++AQ (AE m.kind 4) ([UInt8.ofNat m.state.toNat])++AQ (AE m.kind 8) (Dw m.streams)++AQ (AE m.kind 16) (Ci m.pos m.links)++AQ (Bw m.kind m.state) (Bk m.data)) a' c' w.heap.size (w.heap.size+1) m a1 c1 a2 c2 a3 c3 a4 c4∧Tch (Dr g a6') v6 V∧(a'.map Addr.block=a6'.map Addr.block∨∃q,a'.map Addr.block=some q∧v6.heap.size≤q))
 case first=>
  have HK:=HK6.out;have hq:Bw m.kind m.state=true∨Bw m.kind m.state=false:=by cases Bw m.kind m.state<;>simp
  rcases hq with hq | hq
  ·have HKK:=hid (HK hq)
   clear HK;rw[hq];go_wp2_with fail;refine HKK.out.mono ?_;rintro r x1 ⟨rfl,hst⟩;obtain⟨a',c',hI,ht,ha⟩:=HJ6.out.step hst;go_wp2_with fail;go_meet
   case rel=>exact ⟨a',c',by simpa [AQ,hq] using hI,ht,ha⟩
  ·clear HK
   rw[hq];go_wp2_with fail;go_meet
   case rel=>exact ⟨a6',c6',by simpa [AQ,hq] using HJ6.out,Tch.refl _ _,.inl rfl⟩
 case rest=>
 obtain⟨a7',c7',hI7,ht,ha⟩:=hcut;obtain⟨w7,hwn⟩:∃W:World,W=wc:=⟨_,rfl⟩;subst hwn;have HT6:=hid (And.intro ht ha);clear ht ha;have q7_0:w7.cell? ⟨w.heap.size,0,none⟩=some (.pointer (some ⟨g,0,none⟩)):=hI7.pa.cell 0;have HC7:=hid (Ps hI7 (Dy m.sea) (fun hh=>absurd hh (by rw[HNO.out.2.2.1];decide)));have HI7:=hid hI7;clear hI7;go_wp2_with fail;refine HC7.out.mono ?_;rintro r w8 ⟨rfl,hst⟩;obtain⟨a8',c8',hI8,ht,ha⟩:=HI7.out.step hst;have HT7:=hid (And.intro ht ha);clear hst ht ha;have q8_0:w8.cell? ⟨w.heap.size,0,none⟩=some (.pointer (some ⟨g,0,none⟩)):=hI8.pa.cell 0;have HC8:=hid (NX hI8 (Dz m.proj) (fun hh=>absurd hh (by rw[HNO.out.2.2.2.1];decide)));have HI8:=hid hI8;clear hI8;go_wp2_with fail;refine HC8.out.mono ?_;rintro r w9 ⟨rfl,hst⟩;obtain⟨a9',c9',hI9,ht,ha⟩:=HI8.out.step hst;have HT8:=hid (And.intro ht ha);clear hst ht ha;have hn:=At.refl hI9.pen;have hn:=At.trans (J:=J) HT8.out.1 HT8.out.2 hn;have hn:=At.trans (J:=J) HT7.out.1 HT7.out.2 hn;have hn:=At.trans (J:=J) HT6.out.1 HT6.out.2 hn;have hn:=At.later HB6.out hn;have hn:=At.trans (J:=J) HT5.out.1 HT5.out.2 hn;have hn:=At.trans (J:=J) HT4.out.1 HT4.out.2 hn;have hn:=At.trans (J:=J) HT3.out.1 HT3.out.2 hn;have hn:=At.trans (J:=J) HT2.out.1 HT2.out.2 hn;have hn:=At.trans (J:=J) HT1.out.1 HT1.out.2 hn;have hn:=At.later HBW1.out hn;have HST:=hid hn;clear hn hI9;go_wp2_with fail;first | go_end0 | refine Al (Ax rfl _ _ _) rfl ?_
 refine⟨rfl,?_⟩;have:=HST.out;rw[hmb];simpa only[Ao] using this
theorem SL(w:World)(m:Msg)(a1:Option Addr)(c1:Nat)(a2:Option Addr)(c2:Nat)(a3:Option Addr)(c3:Nat)(a4:Option Addr)(c4:Nat)(hd:A9 (·<w.heap.size) w m a1 c1 a2 c2 a3 c3 a4 c4)(hbk:∀x∈m.links,x.backs.length≤1000000)(hln:m.data.length≤10000000000)(hR:Gl m=true)(hno:Aa0 m):
  Calls Tryz.prog 159 #[.agg Acq] w fun r w'=>∃v,r=.returned (.tuple #[v,.int .i64 (GH m).2])∧Ah.r (fun q=>w.heap.size≤q∧q<w'.heap.size) w' [v] (GH m).1∧Below w.heap.size w w':=by
 have HD:=hid hd;have hmo:(65536:Int)+(m.data.length:Int)=((65536+m.data.length:Nat):Int):=zD;have HN:=hid (fun W:World=>(by have:=I2 W (65536+m.data.length) zD;rw[←hmo] at this;exact this:Calls Tryz.prog 160 #[.int .i64 ((65536:Int)+(m.data.length:Int))] W fun r w'=>r=.returned (.pointer (some ⟨W.heap.size,0,none⟩))∧BQ w' W.heap.size W.heap.size (65536+m.data.length) [] none 0∧Below W.heap.size W w'));unfold GH;have HBX:Hid (Blk (w.alloc (.cells Acq 45)) w.heap.size 45 Acq):=hid (Blk.new w _ _);have hb0:Below w.heap.size w (w.alloc (.cells Acq 45)):=zB;rw[Ai hR];have hbl:=IF hR;have HPT:=hid (fun (W:World) {g base most:Nat} {a:Option Addr} {c:Nat} (h:BQ W g base most [] a c) (hW:A9 (fun q=>q<W.heap.size∧¬Dr g a q) W m a1 c1 a2 c2 a3 c3 a4 c4) (hf:(D4 m).length≤most)=>WM W h m a1 c1 a2 c2 a3 c3 a4 c4 hW hbk hR hno (by simpa using hf) zH);have hfit:(D4 m).length≤65536+m.data.length:=zD;generalize D4 m=K at*;clear hd hR hbk hmo hbl hno;go_enter Tryz.func159,Tryz.ntmps159;go_wp2_with fail;generalize w.alloc (.cells Acq 45)=w0 at*;refine (HN.out _).mono ?_;rintro r w2 ⟨rfl,hp2,hb2⟩;have hB2:=HBX.out.later hb2;have y0:w2.cell? ⟨w.heap.size,0,none⟩=some (.int .i64 m.kind):=hB2.cell 0;have y1:w2.cell? ⟨w.heap.size,1,none⟩=some (.int .u64 m.epoch):=hB2.cell 1;have y2:w2.cell? ⟨w.heap.size,2,none⟩=some (.int .u64 m.seq):=hB2.cell 2;have y3:w2.cell? ⟨w.heap.size,3,none⟩=some (.int .u64 m.pos):=hB2.cell 3;have y4:w2.cell? ⟨w.heap.size,4,none⟩=some (.int .i64 m.count):=hB2.cell 4;have y5:w2.cell? ⟨w.heap.size,5,none⟩=some (.int .i64 m.state):=hB2.cell 5;have y6:w2.cell? ⟨w.heap.size,6,none⟩=some (.slice a1 m.streams.length c1):=hB2.cell 6;have y7:w2.cell? ⟨w.heap.size,7,none⟩=some (.slice a2 m.links.length c2):=hB2.cell 7;have y8:w2.cell? ⟨w.heap.size,8,none⟩=some (.slice a3 m.data.length c3):=hB2.cell 8;have y9:w2.cell? ⟨w.heap.size,9,none⟩=some (.int .u64 m.sea.epoch):=hB2.cell 9;have y10:w2.cell? ⟨w.heap.size,10,none⟩=some (.int .u64 m.sea.node):=hB2.cell 10;have y11:w2.cell? ⟨w.heap.size,11,none⟩=some (.int .u64 m.sea.tail):=hB2.cell 11;have y12:w2.cell? ⟨w.heap.size,12,none⟩=some (.int .u64 m.proj.epoch):=hB2.cell 12;have y13:w2.cell? ⟨w.heap.size,13,none⟩=some (.slice a4 m.proj.stripes.length c4):=hB2.cell 13;have hbw2:=Af hb2 hb0;have hs1:=hb0.size;have HPA:=hid hp2;have HP2:=hid (HPT.out w2 hp2 (A9.tr (fun A cs x hx=>A.mono (A.keep hx fun q hq=>hbw2.block q hq) fun q hq=>⟨by have:=hbw2.size;omega,fun hf=>zBy⟩) HD.out) hfit);clear hp2 hB2;go_wp2_with fail;refine HP2.out.mono ?_;rintro r w3 ⟨rfl,hst⟩;rw[AV] at hst;have hbw3:Below w.heap.size w w3:=hbw2.trans (HPA.out.below hs1 hbw2.size hst);obtain⟨a9,c9,hp3,_,_⟩:=hst;have HB:=hid (Hb w3 hp3);have hs3:=hbw3.size;clear hp3 y0 y1 y2 y3 y4 y5 y6 y7 y8 y9 y10 y11 y12 y13;go_wp2_with fail;refine HB.out.mono ?_;rintro r w4 ⟨v,rfl,hv,hb4⟩;have hbe:=Af hb4 hbw3;have HV:=hid (Ah.mono (S':=fun q=>w.heap.size≤q∧q<w4.heap.size) hv fun q hq=>⟨zY,hq.2⟩);clear hv;go_wp2_with fail;go_ret2
 exact⟨_,rfl,HV.out,hbe⟩
def Ig:Msg:=⟨7,3,5,0,0,0,[],[],[],⟨0,0,0⟩,⟨0,[]⟩⟩
theorem OW:∃l:List UInt8,Fm Ig=(3::l,0)∧l.length=7:=⟨(Fm Ig).1.tail,zE,zE⟩
end Go.Proofs.YtfddhafbhceoaaaGreat
