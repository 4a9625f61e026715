/- Mini: Needed by bodyReads_walk, part 6: texts put together by shake.py; no condition. -/
import Derived.Test.YtlbffbkbkajciaaGreatZT3
import Derived.Test.YtlbffbkbkajciaaGreatZT2
import Derived.Test.YtlbffbkbkajciaaGreatZT1
import Derived.Test.YtlbffbkbkajciaaGreatZT5
import Derived.BigRegion
import Derived.Test.YtlbffbkbkajciaaGreatZT4
import Derived.Lib.SlBytesConst
set_option linter.unusedVariables false
set_option linter.unusedSimpArgs false
set_option maxRecDepth 100000
set_option maxHeartbeats 6400000
namespace Go.Bs
theorem zCv{p:Prop}(h:p:=by rw [show n - k = (n - (k + 1)) + 1 by omega]; rfl):p:=h
theorem zCn{p:Prop}(h:p:=by simp [results, Tryz.results238, go_sem, y0, y1, l1]):p:=h
theorem zBw{p:Prop}(h:p:=by rw [List.getD_eq_getElem?_getD, AH (by omega)]; rfl):p:=h
theorem zBk{p:Prop}(h:p:=by rw [HX.out]):p:=h
theorem ZZ{p:Prop}(h:p:=by dsimp only at h; omega):p:=h
theorem ZQ{p:Prop}(h:p:=by rw [HX.out]; exact AJ rfl rfl (by omega)):p:=h
theorem ZD{p:Prop}(h:p:=by have := hq.2; simp [World.setCell]; omega):p:=h
theorem zW{p:Prop}(h:p:=by simp [results, Tryz.results240, go_sem, y0, y1, y2, y3, l1, z0, z1, z2, l2]):p:=h
theorem zT{p:Prop}(h:p:=by simp [World.setCell]; omega):p:=h
end Go.Bs
namespace Go.Proofs.YtlbffbkbkajciaaGreat
open Go.RowKit Go.Bs Go.Maps
theorem GP{w:World}{g:Nat}{t:TypeId}{v0 v1 v2:Value}(h:Blk w g t #[v0,v1,v2]):w.cell? ⟨g,0,none⟩=some v0∧w.cell? ⟨g,1,none⟩=some v1∧w.cell? ⟨g,2,none⟩=some v2∧w.frozen? ⟨g,0,none⟩=false∧w.frozen? ⟨g,1,none⟩=false∧w.frozen? ⟨g,2,none⟩=false∧g<w.heap.size:=
 ⟨h.cell 0,h.cell 1,h.cell 2,h.free 0,h.free 1,h.free 2,h.lt⟩
def Rs.tok(B:List UInt8)(s:Rs):Rs × Tok:=
 if (s.num B).1.k=0 then
  (if (s.num B).2%2=0 then
   (if 1048576<(s.num B).2/2+1 then ((s.num B).1.fail 2 s.p,⟨[],0,0⟩)
   else if ((s.num B).1.take B (((s.num B).2/2+1:Nat):Int)).1.k=0 then (((s.num B).1.take B (((s.num B).2/2+1:Nat):Int)).1,⟨((s.num B).1.take B (((s.num B).2/2+1:Nat):Int)).2,0,0⟩)
   else (((s.num B).1.take B (((s.num B).2/2+1:Nat):Int)).1,⟨[],0,0⟩))
  else if 1048572<(s.num B).2/2 then ((s.num B).1.fail 2 s.p,⟨[],0,0⟩)
  else if ((s.num B).1.num B).1.k=0 then
   (if 65535<((s.num B).1.num B).2 then (((s.num B).1.num B).1.fail 10 (s.num B).1.p,⟨[],0,0⟩)
   else (((s.num B).1.num B).1,⟨[],((((s.num B).1.num B).2+1:Nat):Int),(((s.num B).2/2+4:Nat):Int)⟩))
  else (((s.num B).1.num B).1,⟨[],0,0⟩))
 else ((s.num B).1,⟨[],0,0⟩)
theorem Np(w:World)(a:Option Addr)(c:Nat)(B:List UInt8)(hl:Ah.r (·<w.heap.size) w [.slice a B.length c] B)(s:Rs)(hs:s.ok B.length)(hB:B.length≤1000000000000):
  Calls Tryz.prog 240 #[CV a B.length c s] w fun r w'=>∃v,r=.returned (.tuple #[CV a B.length c (s.tok B).1,.agg #[v,.int .i64 (s.tok B).2.off,.int .i64 (s.tok B).2.len]])∧Ah.r (fun q=>w.heap.size≤q∧q<w'.heap.size) w' [v] (s.tok B).2.lit∧Below w.heap.size w w':=by
 have hR:=hid (fun (W:World) (hW:Below w.heap.size w W)=>CA W a c B (lift hl hW) s hs hB)
 have hok:=Rs.Cm hs
 have hsm:=Rs.Ch (B:=B) (s:=s)
 have hR2:=hid (fun (W:World) (hW:Below w.heap.size w W)=>CA W a c B (lift hl hW) (s.num B).1 hok hB)
 have hsm2:=Rs.Ch (B:=B) (s:=(s.num B).1)
 have hF:=hid (fun (W:World)=>Bg W a B.length c (s.num B).1 2 s.p zD)
 have hF2:=hid (fun (W:World)=>Bg W a B.length c ((s.num B).1.num B).1 10 (s.num B).1.p zD)
 have hT:=hid (fun (W:World) (hW:Below w.heap.size w W) (hn:(s.num B).2/2+1≤1048576)=>EU W a c B (lift hl hW) (s.num B).1 hok (((s.num B).2/2+1:Nat):Int) zD hB)
 unfold Rs.tok;generalize (s.num B).1.take B (((s.num B).2/2+1:Nat):Int)=T at*
 generalize ((s.num B).1.num B).1.fail 10 (s.num B).1.p=F2 at*
 generalize (s.num B).1.num B=M at*
 generalize (s.num B).1.fail 2 s.p=F1 at*
 generalize s.num B=N at*
 obtain⟨s1,x⟩:=N
 obtain⟨s2,D⟩:=T
 obtain⟨s3,y⟩:=M
 dsimp only at*;clear hl hs hok;unfold CV at*;by_cases hk:s1.k=0
 ·have dk:(s1.k !=(0:Int))=false:=by simp[hk]
  rw[Al hk]
  have HK:=hid hk
  clear hk;by_cases h2:x%2=0
  ·have d2:(((x:Int)%2)==0)=true:=by rw[beq_iff_eq];omega
   rw[Al h2]
   clear h2;by_cases h3:1048576<x/2+1
   ·have d3:decide ((1048576:Int)<(x:Int)/2+1)=true:=Ae zD
    rw[Al h3]
    clear h3;dsimp only;go_enter Tryz.func240,Tryz.ntmps240
    go_wp2_with fail;refine (hR.out _ zA).mono ?_
    rintro r w1 ⟨rfl,hb⟩;have B1:Blk w1 (w.heap.size+1) 60 #[.slice none 0 0,.int .i64 0,.int .i64 0,.int .i64 0]:=Blk.later zB hb
    have B2:Blk w1 (w.heap.size+1+1) 225 #[.slice none 0 0,.int .i64 0,.int .i64 0]:=Blk.later zB hb
    have B0:Blk w1 w.heap.size 60 #[.slice a B.length c,.int .i64 (s.p:Int),.int .i64 s.k,.int .i64 s.f]:=Blk.later zB hb
    obtain⟨x0,x1,x2,x3,e0,e1,e2,e3,l0⟩:=Ap B0
    have hbw1:Below w.heap.size w w1:=zA
    have hsz1:=hb.size
    simp at hsz1
    clear hb;go_wp2_with fail;refine (hF.out _).mono ?_
    rintro r w2 ⟨rfl,hb⟩;have B1:Blk w2 (w.heap.size+1) 60 #[.slice none 0 0,.int .i64 0,.int .i64 0,.int .i64 0]:=Blk.later zB hb
    have B2:Blk w2 (w.heap.size+1+1) 225 #[.slice none 0 0,.int .i64 0,.int .i64 0]:=Blk.later zB hb
    have hbw2:Below w.heap.size w w2:=zA
    have hsz2:=hb.size
    simp at hsz2
    clear hb;obtain⟨y0,y1,y2,y3,g0,g1,g2,g3,l1⟩:=Ap B1
    obtain⟨z0,z1,z2,f0,f1,f2,l2⟩:=GP B2
    clear B1 B2;go_wp2;refine Ag (v:=.tuple #[.agg #[.slice a B.length c,.int .i64 (F1.p:Int),.int .i64 F1.k,.int .i64 F1.f],.agg #[.slice none 0 0,.int .i64 0,.int .i64 0]]) zW rfl ⟨_,rfl,AJ rfl rfl zD,zA⟩
   ·have d3:decide ((1048576:Int)<(x:Int)/2+1)=false:=Ad zD
    rw[Ak h3]
    have hT2:=hid (fun (W:World) (hW:Below w.heap.size w W)=>hT.out W hW zD)
    rw[show ((x/2+1:Nat):Int)=(x:Int)/2+1 by omega] at hT2
    have hx2:x/2+1≤1048576:=zD
    clear h3 hT;by_cases h4:s2.k=0
    ·have d4:(s2.k !=(0:Int))=false:=by simp[h4]
     rw[Al h4]
     clear h4;dsimp only;go_enter Tryz.func240,Tryz.ntmps240
     go_wp2_with fail;refine (hR.out _ zA).mono ?_
     rintro r w1 ⟨rfl,hb⟩;have B1:Blk w1 (w.heap.size+1) 60 #[.slice none 0 0,.int .i64 0,.int .i64 0,.int .i64 0]:=Blk.later zB hb
     have B2:Blk w1 (w.heap.size+1+1) 225 #[.slice none 0 0,.int .i64 0,.int .i64 0]:=Blk.later zB hb
     have B0:Blk w1 w.heap.size 60 #[.slice a B.length c,.int .i64 (s.p:Int),.int .i64 s.k,.int .i64 s.f]:=Blk.later zB hb
     obtain⟨x0,x1,x2,x3,e0,e1,e2,e3,l0⟩:=Ap B0
     have hbw1:Below w.heap.size w w1:=zA
     have hsz1:=hb.size
     simp at hsz1
     clear hb;go_wp2_with fail;refine (hT2.out _ zA).mono ?_
     rintro r w2 ⟨v,rfl,hr,hb⟩;have B1:Blk w2 (w.heap.size+1) 60 #[.slice none 0 0,.int .i64 0,.int .i64 0,.int .i64 0]:=Blk.later zB hb
     have B2:Blk w2 (w.heap.size+1+1) 225 #[.slice none 0 0,.int .i64 0,.int .i64 0]:=Blk.later zB hb
     have hbw2:Below w.heap.size w w2:=zA
     have hsz2:=hb.size
     simp at hsz2
     clear hb;obtain⟨a1,c1,hv1,hr2,_⟩:=Au hr
     simp only[Aj,At] at hv1
     subst hv1;have HR:=hid hr2
     clear hr hr2;obtain⟨y0,y1,y2,y3,g0,g1,g2,g3,l1⟩:=Ap B1
     obtain⟨z0,z1,z2,f0,f1,f2,l2⟩:=GP B2
     clear B1 B2;go_wp2;refine Ag (v:=.tuple #[.agg #[.slice a B.length c,.int .i64 (s2.p:Int),.int .i64 s2.k,.int .i64 s2.f],.agg #[.slice a1 D.length c1,.int .i64 0,.int .i64 0]]) zW rfl ⟨_,rfl,?_,zA⟩
     refine Ah.mono (Ah.keep HR.out fun q hq=> ?_) fun q hq=>⟨ZH,ZD⟩
     have hq1:=hq.1
     have hq2:=hq.2
     simp at hq1
     repeat (first | rw[Below.heap_setCell _ _ _ _ zF] | rw[Below.heap_alloc _ _ _ zT])
    ·have d4:(s2.k !=(0:Int))=true:=by simp[h4]
     rw[Ak h4]
     clear h4;dsimp only;go_enter Tryz.func240,Tryz.ntmps240
     go_wp2_with fail;refine (hR.out _ zA).mono ?_
     rintro r w1 ⟨rfl,hb⟩;have B1:Blk w1 (w.heap.size+1) 60 #[.slice none 0 0,.int .i64 0,.int .i64 0,.int .i64 0]:=Blk.later zB hb
     have B2:Blk w1 (w.heap.size+1+1) 225 #[.slice none 0 0,.int .i64 0,.int .i64 0]:=Blk.later zB hb
     have B0:Blk w1 w.heap.size 60 #[.slice a B.length c,.int .i64 (s.p:Int),.int .i64 s.k,.int .i64 s.f]:=Blk.later zB hb
     obtain⟨x0,x1,x2,x3,e0,e1,e2,e3,l0⟩:=Ap B0
     have hbw1:Below w.heap.size w w1:=zA
     have hsz1:=hb.size
     simp at hsz1
     clear hb;go_wp2_with fail;refine (hT2.out _ zA).mono ?_
     rintro r w2 ⟨v,rfl,hr,hb⟩;have B1:Blk w2 (w.heap.size+1) 60 #[.slice none 0 0,.int .i64 0,.int .i64 0,.int .i64 0]:=Blk.later zB hb
     have B2:Blk w2 (w.heap.size+1+1) 225 #[.slice none 0 0,.int .i64 0,.int .i64 0]:=Blk.later zB hb
     have hbw2:Below w.heap.size w w2:=zA
     have hsz2:=hb.size
     simp at hsz2
     clear hb;obtain⟨a1,c1,hv1,hr2,_⟩:=Au hr
     simp only[Aj,At] at hv1
     subst hv1;have HR:=hid hr2
     clear hr hr2;obtain⟨y0,y1,y2,y3,g0,g1,g2,g3,l1⟩:=Ap B1
     obtain⟨z0,z1,z2,f0,f1,f2,l2⟩:=GP B2
     clear B1 B2;go_wp2;refine Ag (v:=.tuple #[.agg #[.slice a B.length c,.int .i64 (s2.p:Int),.int .i64 s2.k,.int .i64 s2.f],.agg #[.slice none 0 0,.int .i64 0,.int .i64 0]]) zW rfl ⟨_,rfl,AJ rfl rfl zD,zA⟩
  ·have d2:(((x:Int)%2)==0)=false:=by rw[B6];omega
   rw[Ak h2]
   clear h2;by_cases h3:1048572<x/2
   ·have d3:decide ((1048572:Int)<(x:Int)/2)=true:=Ae zD
    rw[Al h3]
    clear h3;dsimp only;go_enter Tryz.func240,Tryz.ntmps240
    go_wp2_with fail;refine (hR.out _ zA).mono ?_
    rintro r w1 ⟨rfl,hb⟩;have B1:Blk w1 (w.heap.size+1) 60 #[.slice none 0 0,.int .i64 0,.int .i64 0,.int .i64 0]:=Blk.later zB hb
    have B2:Blk w1 (w.heap.size+1+1) 225 #[.slice none 0 0,.int .i64 0,.int .i64 0]:=Blk.later zB hb
    have B0:Blk w1 w.heap.size 60 #[.slice a B.length c,.int .i64 (s.p:Int),.int .i64 s.k,.int .i64 s.f]:=Blk.later zB hb
    obtain⟨x0,x1,x2,x3,e0,e1,e2,e3,l0⟩:=Ap B0
    have hbw1:Below w.heap.size w w1:=zA
    have hsz1:=hb.size
    simp at hsz1
    clear hb;go_wp2_with fail;refine (hF.out _).mono ?_
    rintro r w2 ⟨rfl,hb⟩;have B1:Blk w2 (w.heap.size+1) 60 #[.slice none 0 0,.int .i64 0,.int .i64 0,.int .i64 0]:=Blk.later zB hb
    have B2:Blk w2 (w.heap.size+1+1) 225 #[.slice none 0 0,.int .i64 0,.int .i64 0]:=Blk.later zB hb
    have hbw2:Below w.heap.size w w2:=zA
    have hsz2:=hb.size
    simp at hsz2
    clear hb;obtain⟨y0,y1,y2,y3,g0,g1,g2,g3,l1⟩:=Ap B1
    obtain⟨z0,z1,z2,f0,f1,f2,l2⟩:=GP B2
    clear B1 B2;go_wp2;refine Ag (v:=.tuple #[.agg #[.slice a B.length c,.int .i64 (F1.p:Int),.int .i64 F1.k,.int .i64 F1.f],.agg #[.slice none 0 0,.int .i64 0,.int .i64 0]]) zW rfl ⟨_,rfl,AJ rfl rfl zD,zA⟩
   ·have d3:decide ((1048572:Int)<(x:Int)/2)=false:=Ad zD
    rw[Ak h3]
    have hx2:x/2≤1048572:=zD
    clear h3;by_cases h4:s3.k=0
    ·have d4:(s3.k !=(0:Int))=false:=by simp[h4]
     rw[Al h4]
     clear h4;by_cases h5:65535<y
     ·have d5:decide ((65535:Int)<(y:Int))=true:=Ae zD
      rw[Al h5]
      clear h5;dsimp only;go_enter Tryz.func240,Tryz.ntmps240
      go_wp2_with fail;refine (hR.out _ zA).mono ?_
      rintro r w1 ⟨rfl,hb⟩;have B1:Blk w1 (w.heap.size+1) 60 #[.slice none 0 0,.int .i64 0,.int .i64 0,.int .i64 0]:=Blk.later zB hb
      have B2:Blk w1 (w.heap.size+1+1) 225 #[.slice none 0 0,.int .i64 0,.int .i64 0]:=Blk.later zB hb
      have B0:Blk w1 w.heap.size 60 #[.slice a B.length c,.int .i64 (s.p:Int),.int .i64 s.k,.int .i64 s.f]:=Blk.later zB hb
      obtain⟨x0,x1,x2,x3,e0,e1,e2,e3,l0⟩:=Ap B0
      have hbw1:Below w.heap.size w w1:=zA
      have hsz1:=hb.size
      simp at hsz1
      clear hb;go_wp2_with fail;refine (hR2.out _ zA).mono ?_
      rintro r w2 ⟨rfl,hb⟩;have B1:Blk w2 (w.heap.size+1) 60 #[.slice none 0 0,.int .i64 0,.int .i64 0,.int .i64 0]:=Blk.later zB hb
      have B2:Blk w2 (w.heap.size+1+1) 225 #[.slice none 0 0,.int .i64 0,.int .i64 0]:=Blk.later zB hb
      have BD:Blk w2 w1.heap.size 60 #[.slice a B.length c,.int .i64 (s1.p:Int),.int .i64 s1.k,.int .i64 s1.f]:=Blk.later zB hb
      obtain⟨v0,v1,v2,v3,q0,q1,q2,q3,l3⟩:=Ap BD
      have hbw2:Below w.heap.size w w2:=zA
      have hsz2:=hb.size
      simp at hsz2
      clear hb;go_wp2_with fail;refine (hF2.out _).mono ?_
      rintro r w3 ⟨rfl,hb⟩;have B1:Blk w3 (w.heap.size+1) 60 #[.slice none 0 0,.int .i64 0,.int .i64 0,.int .i64 0]:=Blk.later zB hb
      have B2:Blk w3 (w.heap.size+1+1) 225 #[.slice none 0 0,.int .i64 0,.int .i64 0]:=Blk.later zB hb
      have hbw3:Below w.heap.size w w3:=zA
      have hsz3:=hb.size
      simp at hsz3
      clear hb;obtain⟨y0,y1,y2,y3,g0,g1,g2,g3,l1⟩:=Ap B1
      obtain⟨z0,z1,z2,f0,f1,f2,l2⟩:=GP B2
      clear B1 B2;go_wp2;refine Ag (v:=.tuple #[.agg #[.slice a B.length c,.int .i64 (F2.p:Int),.int .i64 F2.k,.int .i64 F2.f],.agg #[.slice none 0 0,.int .i64 0,.int .i64 0]]) zW rfl ⟨_,rfl,AJ rfl rfl zD,zA⟩
     ·have d5:decide ((65535:Int)<(y:Int))=false:=Ad zD
      rw[Ak h5]
      have hy2:y≤65535:=zD
      clear h5;dsimp only;go_enter Tryz.func240,Tryz.ntmps240
      go_wp2_with fail;refine (hR.out _ zA).mono ?_
      rintro r w1 ⟨rfl,hb⟩;have B1:Blk w1 (w.heap.size+1) 60 #[.slice none 0 0,.int .i64 0,.int .i64 0,.int .i64 0]:=Blk.later zB hb
      have B2:Blk w1 (w.heap.size+1+1) 225 #[.slice none 0 0,.int .i64 0,.int .i64 0]:=Blk.later zB hb
      have B0:Blk w1 w.heap.size 60 #[.slice a B.length c,.int .i64 (s.p:Int),.int .i64 s.k,.int .i64 s.f]:=Blk.later zB hb
      obtain⟨x0,x1,x2,x3,e0,e1,e2,e3,l0⟩:=Ap B0
      have hbw1:Below w.heap.size w w1:=zA
      have hsz1:=hb.size
      simp at hsz1
      clear hb;go_wp2_with fail;refine (hR2.out _ zA).mono ?_
      rintro r w2 ⟨rfl,hb⟩;have B1:Blk w2 (w.heap.size+1) 60 #[.slice none 0 0,.int .i64 0,.int .i64 0,.int .i64 0]:=Blk.later zB hb
      have B2:Blk w2 (w.heap.size+1+1) 225 #[.slice none 0 0,.int .i64 0,.int .i64 0]:=Blk.later zB hb
      have hbw2:Below w.heap.size w w2:=zA
      have hsz2:=hb.size
      simp at hsz2
      clear hb;obtain⟨y0,y1,y2,y3,g0,g1,g2,g3,l1⟩:=Ap B1
      obtain⟨z0,z1,z2,f0,f1,f2,l2⟩:=GP B2
      clear B1 B2;go_wp2;refine Ag (v:=.tuple #[.agg #[.slice a B.length c,.int .i64 (s3.p:Int),.int .i64 s3.k,.int .i64 s3.f],.agg #[.slice none 0 0,.int .i64 ((y:Int)+1),.int .i64 ((x:Int)/2+4)]]) zW rfl ⟨_,rfl,AJ rfl rfl zD,zA⟩
    ·have d4:(s3.k !=(0:Int))=true:=by simp[h4]
     rw[Ak h4]
     clear h4;dsimp only;go_enter Tryz.func240,Tryz.ntmps240
     go_wp2_with fail;refine (hR.out _ zA).mono ?_
     rintro r w1 ⟨rfl,hb⟩;have B1:Blk w1 (w.heap.size+1) 60 #[.slice none 0 0,.int .i64 0,.int .i64 0,.int .i64 0]:=Blk.later zB hb
     have B2:Blk w1 (w.heap.size+1+1) 225 #[.slice none 0 0,.int .i64 0,.int .i64 0]:=Blk.later zB hb
     have B0:Blk w1 w.heap.size 60 #[.slice a B.length c,.int .i64 (s.p:Int),.int .i64 s.k,.int .i64 s.f]:=Blk.later zB hb
     obtain⟨x0,x1,x2,x3,e0,e1,e2,e3,l0⟩:=Ap B0
     have hbw1:Below w.heap.size w w1:=zA
     have hsz1:=hb.size
     simp at hsz1
     clear hb;go_wp2_with fail;refine (hR2.out _ zA).mono ?_
     rintro r w2 ⟨rfl,hb⟩;have B1:Blk w2 (w.heap.size+1) 60 #[.slice none 0 0,.int .i64 0,.int .i64 0,.int .i64 0]:=Blk.later zB hb
     have B2:Blk w2 (w.heap.size+1+1) 225 #[.slice none 0 0,.int .i64 0,.int .i64 0]:=Blk.later zB hb
     have hbw2:Below w.heap.size w w2:=zA
     have hsz2:=hb.size
     simp at hsz2
     clear hb;obtain⟨y0,y1,y2,y3,g0,g1,g2,g3,l1⟩:=Ap B1
     obtain⟨z0,z1,z2,f0,f1,f2,l2⟩:=GP B2
     clear B1 B2;go_wp2;refine Ag (v:=.tuple #[.agg #[.slice a B.length c,.int .i64 (s3.p:Int),.int .i64 s3.k,.int .i64 s3.f],.agg #[.slice none 0 0,.int .i64 0,.int .i64 0]]) zW rfl ⟨_,rfl,AJ rfl rfl zD,zA⟩
 ·have dk:(s1.k !=(0:Int))=true:=by simp[hk]
  rw[Ak hk]
  clear hk;dsimp only;go_enter Tryz.func240,Tryz.ntmps240
  go_wp2_with fail;refine (hR.out _ zA).mono ?_
  rintro r w1 ⟨rfl,hb⟩;have B1:Blk w1 (w.heap.size+1) 60 #[.slice none 0 0,.int .i64 0,.int .i64 0,.int .i64 0]:=Blk.later zB hb
  have B2:Blk w1 (w.heap.size+1+1) 225 #[.slice none 0 0,.int .i64 0,.int .i64 0]:=Blk.later zB hb
  have B0:Blk w1 w.heap.size 60 #[.slice a B.length c,.int .i64 (s.p:Int),.int .i64 s.k,.int .i64 s.f]:=Blk.later zB hb
  obtain⟨x0,x1,x2,x3,e0,e1,e2,e3,l0⟩:=Ap B0
  have hbw1:Below w.heap.size w w1:=zA
  have hsz1:=hb.size
  simp at hsz1
  clear hb;obtain⟨y0,y1,y2,y3,g0,g1,g2,g3,l1⟩:=Ap B1
  obtain⟨z0,z1,z2,f0,f1,f2,l2⟩:=GP B2
  clear B1 B2;go_wp2;refine Ag (v:=.tuple #[.agg #[.slice a B.length c,.int .i64 (s1.p:Int),.int .i64 s1.k,.int .i64 s1.f],.agg #[.slice none 0 0,.int .i64 0,.int .i64 0]]) zW rfl ⟨_,rfl,AJ rfl rfl zD,zA⟩
def Dg(off:Nat):Nat→List UInt8→List UInt8
 | 0,out=>out
 | n+1,out=>Dg off n (out++[out.getD (out.length-off) 0])
theorem Hc(off:Nat):∀(n:Nat) (out:List UInt8),(Dg off n out).length=out.length+n
 | 0,out=>rfl
 | n+1,out=>by simp only[Dg,Hc off n];simp;omega
def Bu(B:List UInt8)(bound:Int)(s:Rs)(out:List UInt8):Rs × List UInt8:=
 if bound-out.length<(s.head B).2.2 then ((s.head B).1.fail 11 s.p,out)
 else if (s.head B).2.1=false then (((s.head B).1.take B ((s.head B).2.2:Int)).1,out++((s.head B).1.take B ((s.head B).2.2:Int)).2)
 else
  if out.length<((s.head B).1.offset B).2 then (((s.head B).1.offset B).1.fail 10 (s.head B).1.p,out)
  else if ((s.head B).1.offset B).1.k=0 then (((s.head B).1.offset B).1,Dg ((s.head B).1.offset B).2 (s.head B).2.2 out) else (((s.head B).1.offset B).1,out)
def exF(B:List UInt8)(bound:Int):Nat→Rs→List UInt8→Rs × List UInt8
 | 0,s,out=>(s,out)
 | f+1,s,out=>if s.p<B.length∧s.k=0 then exF B bound f (Bu B bound s out).1 (Bu B bound s out).2 else (s,out)
def exB(B:List UInt8)(bound:Int):List UInt8 × Int × Int:=
 if (exF B bound B.length ⟨0,0,0⟩ []).1.k=0 then ((exF B bound B.length ⟨0,0,0⟩ []).2,0,0) else ([],(exF B bound B.length ⟨0,0,0⟩ []).1.k,(exF B bound B.length ⟨0,0,0⟩ []).1.f)
theorem Rs.By{s:Rs}{c at_:Int}(hc:c≠0):(s.fail c at_).k≠0:=by
 unfold Rs.fail;split
 ·exact hc
 ·assumption
theorem Rs.Lu{s:Rs}{c at_:Int}:(s.fail c at_).p=s.p:=by unfold Rs.fail;split<;>rfl
theorem Rs.Gl{B:List UInt8}{s:Rs}(h:(s.num B).1.k=0):s.p<(s.num B).1.p∧s.k=0:=by
 unfold Rs.num at*;split
 ·rename_i h0
  rw[Al h0] at h
  have:=(EJ (B.drop s.p) 0 0).2.2.2.2 ZZ
  dsimp only;omega
 ·rename_i h0;rw[Ak h0] at h;exact absurd h h0
theorem Rs.Io{B:List UInt8}{s:Rs}(h:(s.head B).1.k=0):s.p<(s.head B).1.p∧s.k=0∧(s.num B).1.k=0∧1≤(s.head B).2.2∧(s.head B).2.2≤1048576:=by
 unfold Rs.head at*;by_cases h0:(s.num B).1.k=0
 ·have hm:=Rs.Gl h0
  rw[Al h0] at h ⊢
  by_cases h1:(s.num B).2%2=1
  ·rw[Al h1] at h ⊢
   by_cases h2:1048572<(s.num B).2/2
   ·rw[Al h2] at h;exact absurd h (Rs.By zD)
   ·rw[Ak h2];exact⟨hm.1,hm.2,h0,zF,zF⟩
  ·rw[Ak h1] at h ⊢
   by_cases h2:1048575<(s.num B).2/2
   ·rw[Al h2] at h;exact absurd h (Rs.By zD)
   ·rw[Ak h2];exact⟨hm.1,hm.2,h0,zF,zF⟩
 ·rw[Ak h0] at h;exact absurd h h0
theorem Rs.Qs{B:List UInt8}{s:Rs}(h:(s.head B).1.k≠0):(s.head B).2.1=false∧(s.head B).2.2=0:=by
 unfold Rs.head at*;by_cases h0:(s.num B).1.k=0
 ·rw[Al h0] at h ⊢
  by_cases h1:(s.num B).2%2=1
  ·rw[Al h1] at h ⊢
   by_cases h2:1048572<(s.num B).2/2
   ·rw[Al h2];exact⟨rfl,rfl⟩
   ·rw[Ak h2] at h;exact absurd h0 h
  ·rw[Ak h1] at h ⊢
   by_cases h2:1048575<(s.num B).2/2
   ·rw[Al h2];exact⟨rfl,rfl⟩
   ·rw[Ak h2] at h;exact absurd h0 h
 ·rw[Ak h0];exact⟨rfl,rfl⟩
theorem Rs.Fq{B:List UInt8}{s:Rs}{n:Int}(h:(s.take B n).1.k=0):s.p≤(s.take B n).1.p∧s.k=0∧(s.take B n).2.length=n.toNat:=by
 unfold Rs.take at*;cases hk:(s.skip B.length n).1
 ·exact absurd h (Rs.G2 hk).1
 ·have:=Rs.EK hk
  rw[this.2.2.2]
  refine⟨zF,this.1,?_⟩
  simp;omega
theorem Rs.Hh{B:List UInt8}{s:Rs}{n:Int}(h:(s.take B n).1.k≠0):(s.take B n).2=[]:=by
 unfold Rs.take at*;cases hk:(s.skip B.length n).1
 ·simp
 ·have:=Rs.EK hk
  rw[this.2.2.2] at h;exact absurd rfl h
theorem Rs.IT{B:List UInt8}{s:Rs}(h:(s.offset B).1.k=0):s.p<(s.offset B).1.p∧s.k=0∧(s.num B).1.k=0∧(s.offset B).2=(s.num B).2+1∧(s.num B).2<65536:=by
 unfold Rs.offset at*;dsimp only at*;by_cases h1:65536≤(s.num B).2
 ·rw[Al h1] at h;exact absurd h (Rs.By zD)
 ·rw[Ak h1] at h ⊢
  have:=Rs.Gl h
  exact⟨this.1,this.2,h,by rw[Al h],zD⟩
theorem Rs.CW{B:List UInt8}{s:Rs}(h:s.k≠0):s.num B=(s,0):=by unfold Rs.num;rw[Ak h]
theorem Rs.Gc{L:Nat}{s:Rs}{n:Int}(h:s.k≠0):s.skip L n=(false,s):=by unfold Rs.skip;rw[Ak h]
theorem Rs.Bc{s:Rs}{c a:Int}(h:s.k≠0):s.fail c a=s:=by unfold Rs.fail;rw[Ak h]
theorem Rs.ID{B:List UInt8}{s:Rs}{n:Int}(h:s.k≠0):s.take B n=(s,[]):=by unfold Rs.take;rw[Rs.Gc h];simp
theorem GF{B:List UInt8}{bound:Int}{s:Rs}{out:List UInt8}(h:s.ok B.length):(Bu B bound s out).1.ok B.length:=by
 unfold Bu;split
 ·exact Rs.BH (Rs.FN h) zD
 ·split
  ·exact Rs.Hg (Rs.FN h) _
  ·split
   ·exact Rs.BH (Rs.Ij (Rs.FN h)) zD
   ·split
    ·exact Rs.Ij (Rs.FN h)
    ·exact Rs.Ij (Rs.FN h)
theorem Ew{B:List UInt8}{bound:Int}{s:Rs}{out:List UInt8}(h:(Bu B bound s out).1.k=0):s.p<(Bu B bound s out).1.p∧((Bu B bound s out).2.length:Int)≤bound:=by
 unfold Bu at*;by_cases h1:bound-out.length<(s.head B).2.2
 ·rw[Al h1] at h;exact absurd h (Rs.By zD)
 ·rw[Ak h1] at h ⊢
  by_cases h2:(s.head B).2.1=false
  ·rw[Al h2] at h ⊢
   have ht:=Rs.Fq h
   have hh:=Rs.Io ht.2.1
   refine⟨zF,?_⟩
   simp only[Ar,ht.2.2]
   omega
  ·rw[Ak h2] at h ⊢
   by_cases h3:out.length<((s.head B).1.offset B).2
   ·rw[Al h3] at h;exact absurd h (Rs.By zD)
   ·rw[Ak h3] at h ⊢
    by_cases h4:((s.head B).1.offset B).1.k=0
    ·rw[Al h4]
     have ho:=Rs.IT h4
     have hh:=Rs.Io ho.2.1
     refine⟨zF,?_⟩
     simp only[Hc];omega
    ·rw[Ak h4] at h;exact absurd h h4
theorem NS{B:List UInt8}{bound:Int}{s:Rs}{out:List UInt8}(h:(Bu B bound s out).1.k≠0):(Bu B bound s out).2=out:=by
 unfold Bu at*;split
 ·rfl
 ·rename_i h1
  rw[Ak h1] at h
  split
  ·rename_i h2
   rw[Al h2] at h
   rw[Rs.Hh h];simp
  ·rename_i h2
   rw[Ak h2] at h
   split
   ·rfl
   ·rename_i h3
    rw[Ak h3] at h
    split
    ·rename_i h4
     rw[Al h4] at h;exact absurd h4 h
    ·rfl
theorem Qy{B:List UInt8}{bound:Int}:∀(f:Nat) (s:Rs) (out:List UInt8),s.ok B.length→B.length≤s.p+f→s.p<B.length→s.k=0→exF B bound f s out=exF B bound (f-1) (Bu B bound s out).1 (Bu B bound s out).2
 | 0,s,out,_,h1,h2,_=>by omega
 | f+1,s,out,_,_,h2,h3=>by simp only[exF];rw[Al ⟨h2,h3⟩];rfl
theorem E0{B:List UInt8}{bound:Int}:∀(f:Nat) (s:Rs) (out:List UInt8),¬(s.p<B.length∧s.k=0)→exF B bound f s out=(s,out)
 | 0,s,out,_=>rfl
 | f+1,s,out,h=>by simp only[exF];rw[Ak h]
theorem Oz{B:List UInt8}{bound:Int}:∀(f g:Nat) (s:Rs) (out:List UInt8),s.ok B.length→B.length≤s.p+f→B.length≤s.p+g→exF B bound f s out=exF B bound g s out
 | 0,g,s,out,h,h1,h2=>by rw[E0 g s out (by have:=h.le;omega)];rfl
 | f+1,0,s,out,h,h1,h2=>by rw[E0 (f+1) s out (by have:=h.le;omega)];rfl
 | f+1,g+1,s,out,h,h1,h2=>by
  simp only[exF]
  by_cases hc:s.p<B.length∧s.k=0
  ·rw[Al hc,Al hc]
   by_cases hk:(Bu B bound s out).1.k=0
   ·have:=(Ew hk).1
    exact Oz f g _ _ (GF h) zD zD
   ·rw[E0 f _ _ (fun e=>hk e.2),E0 g _ _ (fun e=>hk e.2)]
  ·rw[Ak hc,Ak hc]
def exR(B:List UInt8)(bound:Int)(s:Rs)(out:List UInt8):Rs × List UInt8:=exF B bound (B.length-s.p) s out
theorem Qv{B:List UInt8}{bound:Int}{s:Rs}{out:List UInt8}(h:s.ok B.length)(h1:s.p<B.length)(h2:s.k=0):exR B bound s out=exR B bound (Bu B bound s out).1 (Bu B bound s out).2:=by
 unfold exR;rw[Qy _ s out h zD h1 h2]
 by_cases hk:(Bu B bound s out).1.k=0
 ·have:=(Ew hk).1
  exact Oz _ _ _ _ (GF h) zD zD
 ·rw[E0 _ _ _ (fun e=>hk e.2),E0 _ _ _ (fun e=>hk e.2)]
theorem Gs{B:List UInt8}{bound:Int}{s:Rs}{out:List UInt8}(h:¬(s.p<B.length∧s.k=0)):exR B bound s out=(s,out):=E0 _ _ _ h
theorem QA(B:List UInt8)(bound:Int):exB B bound=if (exR B bound ⟨0,0,0⟩ []).1.k=0 then ((exR B bound ⟨0,0,0⟩ []).2,0,0) else ([],(exR B bound ⟨0,0,0⟩ []).1.k,(exR B bound ⟨0,0,0⟩ []).1.f):=rfl
theorem Gu(x:UInt8):∀u∈[Value.int .u8 (x.toNat:Int)],u.oneCell'=true:=by
 intro u hu;simp at hu;subst hu;rfl
theorem C5(l:List UInt8)(x:UInt8):byteCells l++[Value.int .u8 (x.toNat:Int)]=byteCells (l++[x]):=zA3
theorem Lw(w:World){base:Nat}{a:Option Addr}{c:Nat}(out:List UInt8)(hown:w.ownsRow base 5 1 (.slice a out.length c) out.length (byteCells out))(hbase:base≤w.heap.size)(off n:Nat)(h1:1≤off)(h2:off≤out.length)(hn:out.length+n≤1000000000000):
  Calls Tryz.prog 260 #[.slice a out.length c,.int .i64 (off:Int),.int .i64 (n:Int)] w fun r w'=>∃a' c',r=.returned (.slice a' (out.length+n) c')∧w'.ownsRow base 5 1 (.slice a' (out.length+n) c') (out.length+n) (byteCells (Dg off n out))∧Below base w w':=by
 obtain⟨i0,hi,hz0,hz1,hz2⟩:=A8 Eh
 have HO:=hid hown
 clear hown;go_enter Tryz.func260,Tryz.ntmps260
 go_wp2_with fail;go_loopw [0,8] (fun o i wr=>∃(k:Nat) (J:List UInt8) (aJ:Option Addr) (cJ:Nat),k≤n∧i=.int .i64 k∧o=.slice aJ J.length cJ∧wr.ownsRow base 5 1 (.slice aJ J.length cJ) J.length (byteCells J)∧Hid (Dg off n out=Dg off (n-k) J)∧Hid (J.length=out.length+k)∧Below base w wr∧base≤wr.heap.size) (fun _ i _=>n-(intOf i).toNat)
 case atStart=>exact ⟨0,out,a,c,Am _,rfl,rfl,HO.out,hid rfl,hid rfl,Below.refl _ _,hbase⟩
 case round=>
  obtain⟨k,J,aJ,cJ,hk,rfl,rfl,ho,hJ,hln,hb,hbs⟩:=hrel
  have HJO:=hid ho
  rcases Ba k n with hlt | hge
  ·have d1:decide ((k:Int)<(n:Int))=true:=Ae zD
   have d1':decide (k<n)=true:=Ae hlt
   have hml:off≤J.length:=by have:=hln.out;omega
   have hJm:J.length+1≤1000000000000:=by have:=hln.out;omega
   have hst:Hid (Dg off (n-k) J=Dg off (n-(k+1)) (J++[J.getD (J.length-off) 0])):=hid zCv
   have hgd:J.getD (J.length-off) 0=J[J.length-off]'zD:=zBw
   rw[hgd] at hst
   obtain⟨gb,ob,hA,hgb,hc⟩:=Bq (GB rfl ho) (i:=J.length-off) zD
   subst hA;obtain⟨m,hm⟩:∃m,m=J.length-off:=⟨_,rfl⟩
   have e1:(J.length:Int)-(off:Int)=(m:Int):=zD
   generalize J[J.length-off]'zD=x at*
   rw[←hm] at hc
   have i1:(m:Int)<(J.length:Int):=zD
   have i2:(0:Int)≤(m:Int):=zD
   clear ho hgd hm;go_wp2_with (at_builtin;go_loud (refine Aq rfl _ _ _ rfl base 5 i0 (.int .u8 0) 1 1 Tryz.underlying25 hi hz0 hz1 hz2 rfl zS (.slice (some ⟨gb,ob,none⟩) J.length cJ) J.length (byteCells J) rfl (AI HJO.out zC) (some ⟨wr.heap.size,0,none⟩) 1 1 [.int .u8 (x.toNat:Int)] rfl (A9 wr 5 _ rfl rfl rfl) (Gu x) zQ zD zK ?_;intro v' w3 hown3 hgrow3 hat3;obtain⟨a3,c3,rfl⟩:=AP hown3;have HO3:=hid hown3;have HG3:=hid hgrow3;clear hown3 hgrow3 hat3))
   have ho3:=HO3.out
   rw[C5,show J.length+1=(J++[x]).length by simp] at ho3
   have hb3:Below base wr w3:=(Below.grown (Below.refl _ _) HG3.out zK (fun g e=>(HJO.out.lt g e).1)) |>(fun h=>(As (Below.refl _ _) _ |>.mono hbs).trans h)
   have HO4:=hid ho3
   have hs3:=hb3.size
   clear ho3 hc;go_roundw
   case rel=>exact ⟨k+1,J++[x],a3,c3,zD,ZB,zR,HO4.out,hid (hJ.out.trans hst.out),hid (by simp;have:=hln.out;omega),hb.trans hb3,zD⟩
   case measure=>simp [intOf];omega
  ·obtain rfl:k=n:=by omega
   have d1:decide ((k:Int)<(k:Int))=false:=Ad zD
   have hfin:Hid (Dg off k out=J):=hid (by rw[hJ.out,CS];rfl)
   clear ho;go_wp2;go_ret;have hl:J.length=out.length+k:=hln.out
   rw[hfin.out,←hl]
   exact⟨_,_,rfl,HJO.out,hb⟩
def Dz(x:Nat):Nat:=if x%2=0∧x/2<1048576 then x/2+1 else if x%2=1∧x/2≤1048572 then x/2+4 else 0
theorem No(w:World)(x:Nat)(hx:x<18446744073709551616):Calls Tryz.prog 239 #[.int .u64 (x:Int)] w fun r w'=>r=.returned (.int .i64 (Dz x:Int))∧w=w':=by
 unfold Dz;by_cases h2:x%2=0
 ·have d2:(((x:Int)%2)==0)=true:=by rw[beq_iff_eq];omega
  have d3:(((x:Int)%2)==1)=false:=by rw[B6];omega
  by_cases h3:x/2<1048576
  ·have d4:decide ((x:Int)/2<1048576)=true:=Ae zD
   rw[Al ⟨h2,h3⟩]
   go_enter Tryz.func239,Tryz.ntmps239
   go_wp2;go_ret;exact⟨zR,rfl⟩
  ·have d4:decide ((x:Int)/2<1048576)=false:=Ad zD
   rw[Ak (fun e=>h3 e.2),Ak (fun e=>zD)]
   go_enter Tryz.func239,Tryz.ntmps239
   go_wp2;go_ret;exact⟨rfl,rfl⟩
 ·have d2:(((x:Int)%2)==0)=false:=by rw[B6];omega
  have d3:(((x:Int)%2)==1)=true:=by rw[beq_iff_eq];omega
  by_cases h3:x/2≤1048572
  ·have d4:decide ((x:Int)/2≤1048572)=true:=Ae zD
   rw[Ak (fun e=>h2 e.1),Al ⟨zD,h3⟩]
   go_enter Tryz.func239,Tryz.ntmps239
   go_wp2;go_ret;exact⟨zR,rfl⟩
  ·have d4:decide ((x:Int)/2≤1048572)=false:=Ad zD
   rw[Ak (fun e=>h2 e.1),Ak (fun e=>h3 e.2)]
   go_enter Tryz.func239,Tryz.ntmps239
   go_wp2;go_ret;exact⟨rfl,rfl⟩
theorem JT(l l':List UInt8):byteCells l++byteCells l'=byteCells (l++l'):=zA3
structure I8(w W:World)(B:List UInt8)(a:Option Addr)(s:Rs)(out:List UInt8)(aO:Option Addr)(cO:Nat):Prop where
 rd:AQ W (w.heap.size+1) B a s
 dat:Ah.r (·<w.heap.size) W [.slice a B.length B.length] B
 fl:Blk W w.heap.size 58 #[.int .i64 0,.int .i64 0]
 own:W.ownsRow (w.heap.size+2) 5 1 (.slice aO out.length cO) out.length (byteCells out)
 be:Below w.heap.size w W
 sz:w.heap.size+2≤W.heap.size
section
variable {w W W':World} {B:List UInt8} {a:Option Addr} {s s':Rs} {out out':List UInt8} {aO aO':Option Addr} {cO cO':Nat}
theorem I8.later(h:I8 w W B a s out aO cO)(hb:Below W.heap.size W W'):I8 w W' B a s out aO cO:=
 ⟨h.rd.later hb,Ah.keep h.dat fun q hq=>hb.block q (by have:=h.sz;omega),h.fl.later hb,AI h.own hb,Af hb h.be,AV h.sz hb.size⟩
theorem Q8{base:Nat}{e:TypeId}{size:Nat}{v:Value}{n:Nat}{xs:List Value}{g:Nat}(h:W.ownsRow base e size v n xs)(hg:g<base)(hb:Tch (·=g) W W'):W'.ownsRow base e size v n xs:=by
 refine⟨h.1,?_⟩
 rcases h.2 with h0 | ⟨g',cap,cur,h1,h2,h3,h4⟩
 ·exact .inl h0
 ·exact .inr ⟨g',cap,cur,h1,h2,(hb.block _ (Blk.lt h3) zD).trans h3,h4⟩
theorem I8.step(h:I8 w W B a s out aO cO)(k:Az W (w.heap.size+1) B a s' W'):I8 w W' B a s' out aO cO:=
 ⟨k.1,Ah.keep h.dat fun q hq=>k.2.block q (by have:=h.sz;omega) zD,h.fl.tch k.2 zD,Q8 h.own zD k.2,h.be.trans (k.below h.be.size zD),AV h.sz k.size⟩
theorem I8.row(h:I8 w W B a s out aO cO)(hb:Below (w.heap.size+2) W W')(ho:W'.ownsRow (w.heap.size+2) 5 1 (.slice aO' out'.length cO') out'.length (byteCells out')):I8 w W' B a s out' aO' cO':=by
 have hd:=Ah.keep h.dat (w':=W') fun q hq=>hb.block q zD
 exact⟨⟨h.rd.blk.below hb zD,Ah.mono hd fun q hq=>⟨by have:=h.sz;have:=hb.size;omega,zD⟩,h.rd.ok⟩,hd,h.fl.below hb zD,ho,h.be.trans (hb.mono zD),AV h.sz hb.size⟩
end
def JR(W:World)(g i:Nat):Int:=intOf ((W.cell? ⟨g,i,none⟩).getD undef)
theorem AQ.cells{w:World}{g:Nat}{B:List UInt8}{a:Option Addr}{s:Rs}(h:AQ w g B a s):JR w g 1=s.p∧JR w g 2=s.k:=by
 have c1:=h.blk.cell 1
 have c2:=h.blk.cell 2
 simp at c1 c2
 unfold JR;rw[c1,c2]
 exact⟨rfl,rfl⟩
def Qx(L g:Nat)(W:World):Nat:=if JR W g 2=0 then L+1-(JR W g 1).toNat else 0
theorem Oy{w:World}{g:Nat}{B:List UInt8}{a:Option Addr}{s:Rs}(h:AQ w g B a s):Qx B.length g w=if s.k=0 then B.length+1-s.p else 0:=by
 unfold Qx;rw[h.cells.1,h.cells.2]
 simp
theorem Jd{w w':World}{g:Nat}{B:List UInt8}{a:Option Addr}{s s':Rs}(h:AQ w g B a s)(h':AQ w' g B a s')(hk:s.k=0)(hp:s.p<B.length)(hs:s'.k=0→s.p<s'.p):Qx B.length g w'<Qx B.length g w:=by
 rw[Oy h,Oy h',Al hk]
 split
 ·have:=hs zO;omega
 ·omega
def Mv(bound:Int)(out:List UInt8):Prop:=out=[]∨(out.length:Int)≤bound
theorem JL{bound:Int}{out:List UInt8}(h:Mv bound out)(hb: -9223372036854775808≤bound∧bound≤1048576):out.length≤1048576∧-9223372036854775808≤bound-(out.length:Int):=by
 rcases h with rfl | h
 ·simp;omega
 ·omega
theorem Ir{B:List UInt8}{bound:Int}{s:Rs}{out:List UInt8}(h:Mv bound out):Mv bound (Bu B bound s out).2:=by
 by_cases hk:(Bu B bound s out).1.k=0
 ·exact .inr (Ew hk).2
 ·rw[NS hk];exact h
set_option maxHeartbeats 12800000 in
theorem Lv(w:World)(B:List UInt8)(a:Option Addr)(n c:Nat)(hl:Ah.r (·<w.heap.size) w [.slice a n c] B)(hB:B.length≤1000000000)(bound:Int)(hbd: -9223372036854775808≤bound∧bound≤1048576):
  Calls Tryz.prog 238 #[.slice a n c,.int .i64 bound] w fun r w'=>∃v,r=.returned (.tuple #[v,.agg #[.int .i64 (exB B bound).2.1,.int .i64 (exB B bound).2.2]])∧Ah.r (fun q=>w.heap.size≤q∧q<w'.heap.size) w' [v] (exB B bound).1∧Below w.heap.size w w':=by
 obtain⟨rfl,hm,hcc,hcm⟩:=AW hl
 obtain⟨i0,hi,hz0,hz1,hz2⟩:=A8 Eh
 have hcap:Ah.r (·<w.heap.size) w [.slice a B.length B.length] B:=by
  obtain⟨a',c',e,h1,h2,h3⟩:=hl
  simp at e
  obtain⟨rfl,rfl⟩:=e
  exact AM rfl (Ai _) (by simp[maxLen];omega) h3
 have HL:=hid hl
 have HCAP:=hid hcap
 clear hl hcap;go_enter Tryz.func238,Tryz.ntmps238
 go_wp2;refine KX 1 0 zD
  (fun a' W=>∃(s:Rs) (out:List UInt8) (aO:Option Addr) (cO:Nat) (rest:Hid (exR B bound s out=exR B bound ⟨0,0,0⟩ [])) (u2 u3 u8 u9 u10 u11 u12 u13 u14 u15 u16 u17 u18 u19 u20 u21 u22 u23 u24 u25 u26 u27 u28 u29 u30 u31 u32 u33 u34 u35 u36 u37 u38 u39 u40 u41 u42 u43 u44 u45 u46 u47 u48 u49 u50 u51 u52 u53 u54 u55 u56 u57 u58 u59 u60 u61 u62 u63 u64 u65 u66 u67 u68 u69 u70:Value),I8 w W B a s out aO cO∧Mv bound out∧a'={tmps:=#[.slice a B.length c,.int .i64 bound,u2,u3,.slice none 0 0,.pointer (some ⟨w.heap.size,0,none⟩),.pointer (some ⟨w.heap.size+1,0,none⟩),.slice aO out.length cO,u8,u9,u10,u11,u12,u13,u14,u15,u16,u17,u18,u19,u20,u21,u22,u23,u24,u25,u26,u27,u28,u29,u30,u31,u32,u33,u34,u35,u36,u37,u38,u39,u40,u41,u42,u43,u44,u45,u46,u47,u48,u49,u50,u51,u52,u53,u54,u55,u56,u57,u58,u59,u60,u61,u62,u63,u64,u65,u66,u67,u68,u69,u70],defers:=[]})
  (fun a' W=>∃(s:Rs) (out:List UInt8) (aO:Option Addr) (cO:Nat) (rest:Hid (exR B bound ⟨0,0,0⟩ []=(s,out))) (u2 u3 u8 u9 u10 u11 u12 u13 u14 u15 u16 u17 u18 u19 u20 u21 u22 u23 u24 u25 u26 u27 u28 u29 u30 u31 u32 u33 u34 u35 u36 u37 u38 u39 u40 u41 u42 u43 u44 u45 u46 u47 u48 u49 u50 u51 u52 u53 u54 u55 u56 u57 u58 u59 u60 u61 u62 u63 u64 u65 u66 u67 u68 u69 u70:Value),I8 w W B a s out aO cO∧Mv bound out∧a'={tmps:=#[.slice a B.length c,.int .i64 bound,u2,u3,.slice none 0 0,.pointer (some ⟨w.heap.size,0,none⟩),.pointer (some ⟨w.heap.size+1,0,none⟩),.slice aO out.length cO,u8,u9,u10,u11,u12,u13,u14,u15,u16,u17,u18,u19,u20,u21,u22,u23,u24,u25,u26,u27,u28,u29,u30,u31,u32,u33,u34,u35,u36,u37,u38,u39,u40,u41,u42,u43,u44,u45,u46,u47,u48,u49,u50,u51,u52,u53,u54,u55,u56,u57,u58,u59,u60,u61,u62,u63,u64,u65,u66,u67,u68,u69,u70],defers:=[]})
  (fun _ W=>Qx B.length (w.heap.size+1) W) rfl rfl ?_ ?_ ?_
 ·rintro a' W ⟨s,out,aO,cO,hex,u2,u3,u8,u9,u10,u11,u12,u13,u14,u15,u16,u17,u18,u19,u20,u21,u22,u23,u24,u25,u26,u27,u28,u29,u30,u31,u32,u33,u34,u35,u36,u37,u38,u39,u40,u41,u42,u43,u44,u45,u46,u47,u48,u49,u50,u51,u52,u53,u54,u55,u56,u57,u58,u59,u60,u61,u62,u63,u64,u65,u66,u67,u68,u69,u70,hI,hin,rfl⟩
  have hlen:=JL hin hbd
  have hok:=hI.rd.ok
  have hpl:=hok.le
  have HI:=hid hI
  have HIN:=hid hin
  have HLF:=hid (Lc W hI.rd)
  have hsz:=hI.sz
  clear hI hin;by_cases hp:s.p<B.length
  ·have e0:(((B.length:Int)-(s.p:Int))==0)=false:=by rw[B6];omega
   by_cases hk:s.k=0
   ·have hgo:=Qv (bound:=bound) (out:=out) hok hp hk
    rw[hex.out] at hgo
    have hmore:=Ew (B:=B) (bound:=bound) (s:=s) (out:=out)
    have hin2:=hid (Ir (B:=B) (s:=s) HIN.out)
    have hst2:Bu B bound s out=Bu B bound s out:=rfl
    conv at hst2=>rhs;unfold Bu
    generalize Bu B bound s out=ES at*
    have hhead:=hid (fun (W:World) (h:AQ W (w.heap.size+1) B a s)=>MU W h zD)
    have hhok:=Rs.FN (B:=B) hok
    have hhle:(s.head B).2.2≤1048576:=by
     by_cases h0:(s.head B).1.k=0
     ·exact (Rs.Io h0).2.2.2.2
     ·rw[(Rs.Qs h0).2];omega
    have hh1:(s.head B).2.1=true→1≤((s.head B).1.offset B).2∨((s.head B).1.offset B).1.k≠0:=fun _=>by
     by_cases h0:((s.head B).1.offset B).1.k=0
     ·left;rw[(Rs.IT h0).2.2.2.1];omega
     ·right;exact h0
    have htake:=hid (fun (W:World) (h:AQ W (w.heap.size+1) B a (s.head B).1)=>Lb W h ((s.head B).2.2:Int) zD zD)
    have htl:((s.head B).1.take B ((s.head B).2.2:Int)).2.length≤1048576:=by
     by_cases h0:((s.head B).1.take B ((s.head B).2.2:Int)).1.k=0
     ·rw[(Rs.Fq h0).2.2];omega
     ·rw[Rs.Hh h0];simp
    have hoff:=hid (fun (W:World) (h:AQ W (w.heap.size+1) B a (s.head B).1)=>KZ W h zD)
    have hatp:=hid (fun (W:World) (h:AQ W (w.heap.size+1) B a (s.head B).1)=>Bz W h)
    have hfail:=hid (fun (W:World) (h:AQ W (w.heap.size+1) B a (s.head B).1)=>Bj W h 11 s.p zD)
    have hfail2:=hid (fun (W:World) (h:AQ W (w.heap.size+1) B a ((s.head B).1.offset B).1)=>Bj W h 10 (s.head B).1.p zD)
    have hfk:=(Rs.By (s:=(s.head B).1) (c:=11) (at_:=(s.p:Int)) zD)
    have hfk2:=(Rs.By (s:=((s.head B).1.offset B).1) (c:=10) (at_:=((s.head B).1.p:Int)) zD)
    generalize (s.head B).1.fail 11 s.p=F1 at*
    generalize ((s.head B).1.offset B).1.fail 10 (s.head B).1.p=F2 at*
    generalize (s.head B).1.take B ((s.head B).2.2:Int)=TK at*
    generalize (s.head B).1.offset B=OF at*
    generalize s.head B=H at*
    obtain⟨s1,ic,m⟩:=H
    obtain⟨s2,D⟩:=TK
    obtain⟨s3,of⟩:=OF
    dsimp only at*;have HK:=hid hk
    have hG:=AA
    have dk:decide (s.k=0)=true:=Ae hk
    have HGO:=hid hgo
    have HMORE:=hid hmore
    have hpx:=hp
    have HST2:=hid hst2
    clear hk hgo hmore hst2 hG hok;by_cases hb1:bound-(out.length:Int)<(m:Int)
    ·have d1:decide (bound-(out.length:Int)<(m:Int))=true:=Ae hb1
     have hes:=HST2.out
     rw[Al hb1] at hes
     subst hes;have HGO2:=hid (HGO.out.trans (Gs (fun e=>hfk e.2)))
     clear hb1 HST2;go_wp2_with fail;refine HLF.out.mono ?_
     rintro r w1 ⟨rfl,hb1⟩;have hG:=AA w1 (HI.out.rd.later hb1)
     rw[dk] at hG
     have HG:=hid hG
     clear hG dk;go_wp2_with fail;refine HG.out.mono ?_
     rintro r w2 ⟨rfl,hb2⟩;have HI2:=hid (HI.out.later (Af hb2 hb1))
     have HAT:=hid (Bz w2 HI2.out.rd)
     go_wp2_with fail;refine HAT.out.mono ?_
     rintro r w2' ⟨rfl,rfl⟩;have HHD:=hid (hhead.out w2 HI2.out.rd)
     go_wp2_with fail;refine HHD.out.mono ?_
     rintro r w3 ⟨rfl,hst3⟩;have HI3:=hid (HI2.out.step hst3)
     clear hst3;have HFL:=hid (hfail.out w3 HI3.out.rd)
     go_wp2_with fail;refine HFL.out.mono ?_
     rintro r w4 ⟨rfl,hst4⟩;have HI4:=hid (HI3.out.step hst4)
     clear hst4;go_wp2;go_step3
     exact .inr ⟨rfl,F1,out,aO,cO,HGO2,_,_,_,_,_,_,_,_,_,_,_,_,_,_,_,_,_,_,_,_,_,_,_,_,_,_,_,_,_,_,_,_,_,_,_,_,_,_,_,_,_,_,_,_,_,_,_,_,_,_,_,_,_,_,_,_,_,_,_,_,_,_,_,_,_,HI4.out,HIN.out,rfl⟩
    ·have d1:decide (bound-(out.length:Int)<(m:Int))=false:=Ad hb1
     have hes:=HST2.out
     rw[Ak hb1] at hes
     clear HST2;cases ic
     ·simp only[Dx] at hes
      subst hes;clear hb1;go_wp2_with fail;refine HLF.out.mono ?_
      rintro r w1 ⟨rfl,hb1⟩;have hG:=AA w1 (HI.out.rd.later hb1)
      rw[dk] at hG
      have HG:=hid hG
      clear hG dk;go_wp2_with fail;refine HG.out.mono ?_
      rintro r w2 ⟨rfl,hb2⟩;have HI2:=hid (HI.out.later (Af hb2 hb1))
      have HAT:=hid (Bz w2 HI2.out.rd)
      go_wp2_with fail;refine HAT.out.mono ?_
      rintro r w2' ⟨rfl,rfl⟩;have HHD:=hid (hhead.out w2 HI2.out.rd)
      go_wp2_with fail;refine HHD.out.mono ?_
      rintro r w3 ⟨rfl,hst3⟩;have HI3:=hid (HI2.out.step hst3)
      clear hst3;have HTK:=hid (htake.out w3 HI3.out.rd)
      go_wp2_with fail;refine HTK.out.mono ?_
      rintro r w4 ⟨v,rfl,hr,hst4⟩;obtain⟨aD,cD,hv,hr2,_⟩:=Au hr
      simp only[Aj,At] at hv
      subst hv;have HI4:=hid (HI3.out.step hst4)
      have HS4:=hid (BI hr2)
      have HONE:=hid (A2 D)
      have hsz4:=HI4.out.sz
      clear hst4 hr hr2;go_wp2_with (at_builtin;go_loud (refine Aq rfl _ _ _ rfl (w.heap.size+2) 5 i0 (.int .u8 0) 1 1 Tryz.underlying25 hi hz0 hz1 hz2 rfl zS (.slice aO out.length cO) out.length (byteCells out) rfl HI4.out.own aD D.length cD (byteCells D) rfl HS4.out HONE.out zQ zD zD ?_;intro v' w5 hown5 hgrow5 hat5;obtain⟨a5,c5,rfl⟩:=AP hown5;have HO5:=hid hown5;have HG5:=hid hgrow5;clear hown5 hgrow5 hat5))
      have ho:=HO5.out
      rw[JT,show out.length+D.length=(out++D).length by simp] at ho
      have hb5:Below (w.heap.size+2) w4 w5:=Below.grown (Below.refl _ _) HG5.out zD (fun g e=>(HI4.out.own.lt g e).1)
      have HI5:=hid (HI4.out.row hb5 ho)
      clear ho hb5;rw[show out.length+D.length=(out++D).length by simp]
      go_step3
      exact .inl ⟨rfl,⟨s2,out++D,a5,c5,hid HGO.out.symm,_,_,_,_,_,_,_,_,_,_,_,_,_,_,_,_,_,_,_,_,_,_,_,_,_,_,_,_,_,_,_,_,_,_,_,_,_,_,_,_,_,_,_,_,_,_,_,_,_,_,_,_,_,_,_,_,_,_,_,_,_,_,_,_,_,HI5.out,hin2.out,rfl⟩,Jd HI.out.rd HI5.out.rd HK.out hpx (fun h=>(HMORE.out h).1)⟩
     ·simp only[Bool.true_eq_false,if_false] at hes
      by_cases h3:out.length<of
      ·have d3:decide ((out.length:Int)<(of:Int))=true:=Ae zD
       have d3':decide (out.length<of)=true:=Ae h3
       rw[Al h3] at hes
       subst hes;clear hb1;go_wp2_with fail;refine HLF.out.mono ?_
       rintro r w1 ⟨rfl,hb1⟩;have hG:=AA w1 (HI.out.rd.later hb1)
       rw[dk] at hG
       have HG:=hid hG
       clear hG dk;go_wp2_with fail;refine HG.out.mono ?_
       rintro r w2 ⟨rfl,hb2⟩;have HI2:=hid (HI.out.later (Af hb2 hb1))
       have HAT:=hid (Bz w2 HI2.out.rd)
       go_wp2_with fail;refine HAT.out.mono ?_
       rintro r w2' ⟨rfl,rfl⟩;have HHD:=hid (hhead.out w2 HI2.out.rd)
       go_wp2_with fail;refine HHD.out.mono ?_
       rintro r w3 ⟨rfl,hst3⟩;have HI3:=hid (HI2.out.step hst3)
       clear hst3;have HATP:=hid (hatp.out w3 HI3.out.rd)
       go_wp2_with fail;refine HATP.out.mono ?_
       rintro r w3' ⟨rfl,rfl⟩;have HOF:=hid (hoff.out w3 HI3.out.rd)
       go_wp2_with fail;refine HOF.out.mono ?_
       rintro r w4 ⟨rfl,hst4⟩;have HI4:=hid (HI3.out.step hst4)
       clear hst4;have HFL:=hid (hfail2.out w4 HI4.out.rd)
       go_wp2_with fail;refine HFL.out.mono ?_
       rintro r w5 ⟨rfl,hst5⟩;have HI5:=hid (HI4.out.step hst5)
       have hG5:=AA w5 HI5.out.rd
       rw[Ad hfk2] at hG5
       have HG5:=hid hG5
       clear hst5 hG5;go_wp2_with fail;refine HG5.out.mono ?_
       rintro r w6 ⟨rfl,hb6⟩;have HI6:=hid (HI5.out.later hb6)
       go_wp2;go_step3
       exact .inl ⟨rfl,⟨F2,out,aO,cO,hid HGO.out.symm,_,_,_,_,_,_,_,_,_,_,_,_,_,_,_,_,_,_,_,_,_,_,_,_,_,_,_,_,_,_,_,_,_,_,_,_,_,_,_,_,_,_,_,_,_,_,_,_,_,_,_,_,_,_,_,_,_,_,_,_,_,_,_,_,_,HI6.out,HIN.out,rfl⟩,Jd HI.out.rd HI6.out.rd HK.out hpx (fun h=>absurd h hfk2)⟩
      ·have d3:decide ((out.length:Int)<(of:Int))=false:=Ad zD
       have d3':decide (out.length<of)=false:=Ad h3
       rw[Ak h3] at hes
       by_cases h4:s3.k=0
       ·have d4:decide (s3.k=0)=true:=Ae h4
        rw[Al h4] at hes
        have hof1:1≤of:=by exact (hh1 rfl).elim id (absurd h4)
        subst hes;go_wp2_with fail;refine HLF.out.mono ?_
        rintro r w1 ⟨rfl,hb1⟩;have hG:=AA w1 (HI.out.rd.later hb1)
        rw[dk] at hG
        have HG:=hid hG
        clear hG dk;go_wp2_with fail;refine HG.out.mono ?_
        rintro r w2 ⟨rfl,hb2⟩;have HI2:=hid (HI.out.later (Af hb2 hb1))
        have HAT:=hid (Bz w2 HI2.out.rd)
        go_wp2_with fail;refine HAT.out.mono ?_
        rintro r w2' ⟨rfl,rfl⟩;have HHD:=hid (hhead.out w2 HI2.out.rd)
        go_wp2_with fail;refine HHD.out.mono ?_
        rintro r w3 ⟨rfl,hst3⟩;have HI3:=hid (HI2.out.step hst3)
        clear hst3;have HATP:=hid (hatp.out w3 HI3.out.rd)
        go_wp2_with fail;refine HATP.out.mono ?_
        rintro r w3' ⟨rfl,rfl⟩;have HOF:=hid (hoff.out w3 HI3.out.rd)
        go_wp2_with fail;refine HOF.out.mono ?_
        rintro r w4 ⟨rfl,hst4⟩;have HI4:=hid (HI3.out.step hst4)
        clear hst4;have hG5:=AA w4 HI4.out.rd
        rw[d4] at hG5
        have HG5:=hid hG5
        clear hG5 d4;go_wp2_with fail;refine HG5.out.mono ?_
        rintro r w6 ⟨rfl,hb6⟩;have HI6:=hid (HI4.out.later hb6)
        have HAG:=hid (Lw w6 out HI6.out.own HI6.out.sz of m hof1 zD zD)
        have HAL:=hid (Hc of m out)
        have HIN2:=hid hin2.out
        clear hb1;go_wp2_with fail;refine HAG.out.mono ?_
        rintro r w7 ⟨a7,c7,rfl,hown7,hb7⟩;rw[←HAL.out] at hown7
        have HI7:=hid (HI6.out.row hb7 hown7)
        clear hown7;go_wp2;rw[←HAL.out]
        go_step3
        exact .inl ⟨rfl,⟨s3,_,a7,c7,hid HGO.out.symm,_,_,_,_,_,_,_,_,_,_,_,_,_,_,_,_,_,_,_,_,_,_,_,_,_,_,_,_,_,_,_,_,_,_,_,_,_,_,_,_,_,_,_,_,_,_,_,_,_,_,_,_,_,_,_,_,_,_,_,_,_,_,_,_,_,HI7.out,HIN2.out,rfl⟩,Jd HI.out.rd HI7.out.rd HK.out hpx (fun h=>(HMORE.out h).1)⟩
       ·have d4:decide (s3.k=0)=false:=Ad h4
        rw[Ak h4] at hes
        subst hes;clear hb1;go_wp2_with fail;refine HLF.out.mono ?_
        rintro r w1 ⟨rfl,hb1⟩;have hG:=AA w1 (HI.out.rd.later hb1)
        rw[dk] at hG
        have HG:=hid hG
        clear hG dk;go_wp2_with fail;refine HG.out.mono ?_
        rintro r w2 ⟨rfl,hb2⟩;have HI2:=hid (HI.out.later (Af hb2 hb1))
        have HAT:=hid (Bz w2 HI2.out.rd)
        go_wp2_with fail;refine HAT.out.mono ?_
        rintro r w2' ⟨rfl,rfl⟩;have HHD:=hid (hhead.out w2 HI2.out.rd)
        go_wp2_with fail;refine HHD.out.mono ?_
        rintro r w3 ⟨rfl,hst3⟩;have HI3:=hid (HI2.out.step hst3)
        clear hst3;have HATP:=hid (hatp.out w3 HI3.out.rd)
        go_wp2_with fail;refine HATP.out.mono ?_
        rintro r w3' ⟨rfl,rfl⟩;have HOF:=hid (hoff.out w3 HI3.out.rd)
        go_wp2_with fail;refine HOF.out.mono ?_
        rintro r w4 ⟨rfl,hst4⟩;have HI4:=hid (HI3.out.step hst4)
        clear hst4;have hG5:=AA w4 HI4.out.rd
        rw[d4] at hG5
        have HG5:=hid hG5
        clear hG5 d4;go_wp2_with fail;refine HG5.out.mono ?_
        rintro r w6 ⟨rfl,hb6⟩;have HI6:=hid (HI4.out.later hb6)
        go_wp2;go_step3
        exact .inl ⟨rfl,⟨s3,out,aO,cO,hid HGO.out.symm,_,_,_,_,_,_,_,_,_,_,_,_,_,_,_,_,_,_,_,_,_,_,_,_,_,_,_,_,_,_,_,_,_,_,_,_,_,_,_,_,_,_,_,_,_,_,_,_,_,_,_,_,_,_,_,_,_,_,_,_,_,_,_,_,_,HI6.out,HIN.out,rfl⟩,Jd HI.out.rd HI6.out.rd HK.out hpx (fun h=>absurd h h4)⟩
   ·have dk:decide (s.k=0)=false:=Ad hk
    have hst:=Gs (bound:=bound) (out:=out) (fun e=>hk e.2:¬(s.p<B.length∧s.k=0))
    have HEX:=hid (hex.out.symm.trans hst)
    clear hk hst hex;go_wp2_with fail;refine HLF.out.mono ?_
    rintro r w1 ⟨rfl,hb1⟩;have hG:=AA w1 (HI.out.rd.later hb1)
    rw[dk] at hG
    have HG:=hid hG
    clear hG dk;go_wp2_with fail;refine HG.out.mono ?_
    rintro r w2 ⟨rfl,hb2⟩;have HI2:=hid (HI.out.later (Af hb2 hb1))
    go_wp2;go_step3
    exact .inr ⟨rfl,s,out,aO,cO,HEX,_,_,_,_,_,_,_,_,_,_,_,_,_,_,_,_,_,_,_,_,_,_,_,_,_,_,_,_,_,_,_,_,_,_,_,_,_,_,_,_,_,_,_,_,_,_,_,_,_,_,_,_,_,_,_,_,_,_,_,_,_,_,_,_,_,HI2.out,HIN.out,rfl⟩
  ·have e0:(((B.length:Int)-(s.p:Int))==0)=true:=by rw[beq_iff_eq];omega
   have hst:=Gs (bound:=bound) (out:=out) (fun e=>hp e.1:¬(s.p<B.length∧s.k=0))
   have HEX:=hid (hex.out.symm.trans hst)
   clear hst hex;go_wp2_with fail;refine HLF.out.mono ?_
   rintro r w1 ⟨rfl,hb1⟩;have HI2:=hid (HI.out.later hb1)
   go_wp2;go_step3
   exact .inr ⟨rfl,s,out,aO,cO,HEX,_,_,_,_,_,_,_,_,_,_,_,_,_,_,_,_,_,_,_,_,_,_,_,_,_,_,_,_,_,_,_,_,_,_,_,_,_,_,_,_,_,_,_,_,_,_,_,_,_,_,_,_,_,_,_,_,_,_,_,_,_,_,_,_,_,HI2.out,HIN.out,rfl⟩
 ·rintro a' W ⟨s,out,aO,cO,hex,u2,u3,u8,u9,u10,u11,u12,u13,u14,u15,u16,u17,u18,u19,u20,u21,u22,u23,u24,u25,u26,u27,u28,u29,u30,u31,u32,u33,u34,u35,u36,u37,u38,u39,u40,u41,u42,u43,u44,u45,u46,u47,u48,u49,u50,u51,u52,u53,u54,u55,u56,u57,u58,u59,u60,u61,u62,u63,u64,u65,u66,u67,u68,u69,u70,hI,hin,rfl⟩
  have HI:=hid hI
  have HFA:=hid (Jy W hI.rd)
  have hsz:=hI.sz
  have hle:=JL hin hbd
  have hex2:=QA B bound
  rw[hex.out] at hex2
  dsimp only at hex2;clear hin hI hex;by_cases hk:s.k=0
  ·rw[Al hk] at hex2
   have HX:=hid hex2
   have dk:decide (s.k=0)=true:=Ae hk
   have HK:=hid hk
   clear hk hex2;go_wp2_with fail;refine HFA.out.mono ?_
   rintro r w1 ⟨rfl,hb1⟩;have hG:=Em (w1.alloc (.cells #[.int .i64 s.k,.int .i64 s.f] 58)) s.k s.f
   rw[dk] at hG
   have HG:=hid hG
   clear hG dk;go_wp2_with fail;refine HG.out.mono ?_
   rintro r w2 ⟨rfl,hb2⟩;have hb12:Below W.heap.size W w2:=Af hb2 (As hb1 _)
   have HI2:=hid (HI.out.later hb12)
   have hfl:=HI2.out.fl
   obtain⟨y0,y1,g0,g1,l1⟩:=CQ hfl
   have hV:=BU rfl HI2.out.own
   have HV:=hid hV
   clear hfl hV;go_wp2;simp only[KD]
   refine Ag (v:=.tuple #[.slice aO out.length cO,.agg #[.int .i64 0,.int .i64 0]]) zCn rfl ⟨_,zBk,?_,?_⟩
   ·rw[HX.out]
    refine Ah.mono (Ah.keep HV.out fun q hq=> ?_) fun q hq=>⟨zD,zBb⟩
    repeat (rw[Below.heap_setCell _ _ _ _ zF])
   ·have hbe:=HI2.out.be
    (repeat (first | with_reducible exact Below.refl _ _ | with_reducible assumption | (with_reducible refine As ?_ _) | (with_reducible refine Below.setCell ?_ zE _) | (with_reducible refine Below.drew ?_) | (with_reducible refine below_drewN ?_ _) | (refine Af zH ?_)))
  ·rw[Ak hk] at hex2
   have HX:=hid hex2
   have dk:decide (s.k=0)=false:=Ad hk
   have HK:=hid hk
   clear hk hex2;go_wp2_with fail;refine HFA.out.mono ?_
   rintro r w1 ⟨rfl,hb1⟩;have hG:=Em (w1.alloc (.cells #[.int .i64 s.k,.int .i64 s.f] 58)) s.k s.f
   rw[dk] at hG
   have HG:=hid hG
   clear hG dk;go_wp2_with fail;refine HG.out.mono ?_
   rintro r w2 ⟨rfl,hb2⟩;have hb12:Below W.heap.size W w2:=Af hb2 (As hb1 _)
   have HI2:=hid (HI.out.later hb12)
   have hfl:=HI2.out.fl
   obtain⟨y0,y1,g0,g1,l1⟩:=CQ hfl
   obtain⟨z0,z1,e0,e1,l2⟩:=CQ (Blk.later (Blk.newAt _ _ _ rfl) hb2)
   have hbe:=HI2.out.be
   clear hfl;go_wp2_with fail;go_region
   all_goals
    go_wp2;simp only[KD]
    refine Ag (v:=.tuple #[.slice none 0 0,.agg #[.int .i64 s.k,.int .i64 s.f]]) zCn rfl ⟨_,zBk,ZQ,?_⟩
    (repeat (first | with_reducible exact Below.refl _ _ | with_reducible assumption | (with_reducible refine As ?_ _) | (with_reducible refine Below.setCell ?_ zE _) | (with_reducible refine Below.drew ?_) | (with_reducible refine below_drewN ?_ _) | (refine Af zH ?_)))
 ·intro K hK
  have HN:=hid (Nr (w.alloc (.cells #[.int .i64 0,.int .i64 0] 58)) B a _ c (lift HL.out zA))
  go_wp2_with fail;refine HN.out.mono ?_
  rintro r w1 ⟨rfl,hrd,hb⟩;have hI:I8 w w1 B a ⟨0,0,0⟩ [] none 0:=⟨by simpa using hrd,Ah.keep HCAP.out fun q hq=>(hb.block q zK).trans (Below.heap_alloc _ _ q hq),Blk.later zB hb,⟨rfl,.inl ⟨rfl,rfl⟩⟩,zA,by have:=hrd.blk.lt;simp at this;omega⟩
  have HI:=hid hI
  clear hI hrd hb;go_wp2;go_step3
  rename_i hkk
  exact hkk _ _ (hK _ _ ⟨⟨0,0,0⟩,[],none,0,hid rfl,_,_,_,_,_,_,_,_,_,_,_,_,_,_,_,_,_,_,_,_,_,_,_,_,_,_,_,_,_,_,_,_,_,_,_,_,_,_,_,_,_,_,_,_,_,_,_,_,_,_,_,_,_,_,_,_,_,_,_,_,_,_,_,_,_,HI.out,.inl rfl,rfl⟩)
theorem JV(p:List UInt8):(Cw p).length≤(A1 p.length).length+p.length+1:=by
 unfold Cw;by_cases h:EE p=true
 ·have h2:=h
  unfold EE at h2;have h3:=Cz h2
  rw[Al h]
  simp;omega
 ·rw[Ak h]
  simp;omega
theorem I1(w:World)(p:List UInt8)(a:Option Addr)(n c:Nat)(hl:Ah.r (·<w.heap.size) w [.slice a n c] p)(hp:p.length≤1048576):
  Calls Tryz.prog 200 #[.slice a n c] w fun r w'=>∃v,r=.returned (.tuple #[v,.int .i64 0])∧Ah.r (fun q=>w.heap.size≤q∧q<w'.heap.size) w' [v] (Cw p)∧Below w.heap.size w w':=by
 obtain⟨rfl,hm,_,_⟩:=AW hl
 have HS:=hid (KT p.length zD w)
 have hbl:=JV p
 have hvl:=Bm p.length
 have HL:=hid hl
 clear hl;generalize (A1 p.length).length=k at*
 have hbK:=hid hbl
 clear hbl;go_enter Tryz.func200,Tryz.ntmps200
 go_wp2_with fail;refine HS.out.mono ?_
 rintro r w1 ⟨rfl,hb1⟩;have HN:=hid (Li w1 (k+p.length+1) zD)
 rw[show ((k+p.length+1:Nat):Int)=(k:Int)+(p.length:Int)+1 by omega] at HN
 have hs1:=hb1.size
 go_wp2_with fail;refine HN.out.mono ?_
 rintro r w2 ⟨rfl,hp2,hb2⟩;have hs2:=hb2.size
 have hbw2:=Af hb2 hb1
 have HQ:=hid (Pn w2 hp2 p a _ c (Ah.mono (Ah.keep HL.out fun q hq=>hbw2.block q hq) fun q hq=>⟨zD,fun hf=>by have:=(hp2.De hf).1;omega⟩) hp (by have:=hbK.out;simp;omega) (by have:=hbK.out;simp;omega))
 have HP2:=hid hp2
 clear hp2;go_wp2_with fail;refine HQ.out.mono ?_
 rintro r w3 ⟨rfl,hst⟩;have hb3:Below w1.heap.size w2 w3:=HP2.out.below (Ai _) zD hst
 obtain⟨a3,c3,hp3,_,_⟩:=hst
 rw[B9] at hp3
 have hs3:=hb3.size
 have hbw3:Below w.heap.size w w3:=hbw2.trans (hb3.mono zD)
 have HB:=hid (Ih w3 hp3)
 clear hp3;go_wp2_with fail;refine HB.out.mono ?_
 rintro r w4 ⟨v,rfl,hv,hb4⟩;have hbe:=Af hb4 hbw3
 have HV:=hid (Ah.mono (S':=fun q=>w.heap.size≤q∧q<w4.heap.size) hv fun q hq=>⟨zZ,hq.2⟩)
 clear hv;go_wp2;go_ret2
 exact⟨_,rfl,HV.out,hbe⟩
def Rs.inn(s:Rs)(L:Nat):Prop:=0≤s.f∧s.f≤L
theorem Rs.H3{s:Rs}{L:Nat}(h:s.inn L){c at_:Int}(h1:0≤at_)(h2:at_≤L):(s.fail c at_).inn L:=by
 unfold Rs.fail;split
 ·exact⟨h1,h2⟩
 ·exact h
theorem Rs.QV{s:Rs}{L:Nat}(h:s.ok L)(hi:s.inn L)(n:Int):(s.skip L n).2.inn L:=by
 have:=h.le
 unfold Rs.skip Rs.inn at*;split
 ·split
  ·dsimp only;omega
  ·split
   ·dsimp only;omega
   ·dsimp only;omega
 ·exact hi
theorem Rs.Qh{B:List UInt8}{s:Rs}(h:s.ok B.length)(hi:s.inn B.length):(s.num B).1.inn B.length:=by
 have hu:=EJ (B.drop s.p) 0 0
 have hl:(B.drop s.p).length=B.length-s.p:=zR
 have:=h.le
 unfold Rs.num Rs.inn at*;split
 ·dsimp only
  split
  ·omega
  ·split
   ·omega
   ·rename_i h1 h2
    have:=hu.2.2.2.2 h2
    omega
 ·exact hi
theorem Rs.Rg{B:List UInt8}{s:Rs}(h:s.ok B.length)(hi:s.inn B.length):(s.head B).1.inn B.length:=by
 have hle:=h.le
 have hn:=Rs.Qh h hi
 unfold Rs.head;split
 ·split
  ·split
   ·exact Rs.H3 hn zD zD
   ·exact hn
  ·split
   ·exact Rs.H3 hn zD zD
   ·exact hn
 ·exact hn
theorem Rs.Ik{B:List UInt8}{s:Rs}(h:s.ok B.length)(hi:s.inn B.length):(s.offset B).1.inn B.length:=by
 have hle:=h.le
 have hn:=Rs.Qh h hi
 unfold Rs.offset;dsimp only;split
 ·exact Rs.H3 hn zD zD
 ·exact hn
theorem Pd{B:List UInt8}{bound:Int}{s:Rs}{out:List UInt8}(h:s.ok B.length)(hi:s.inn B.length):(Bu B bound s out).1.inn B.length:=by
 have hle:=h.le
 have hh:=Rs.Rg h hi
 have ho:=Rs.FN h
 have hle2:=ho.le
 unfold Bu;split
 ·exact Rs.H3 hh zD zD
 ·split
  ·exact Rs.QV ho hh _
  ·split
   ·exact Rs.H3 (Rs.Ik ho hh) zD zD
   ·split
    ·exact Rs.Ik ho hh
    ·exact Rs.Ik ho hh
theorem Qz{B:List UInt8}{bound:Int}:∀(f:Nat) (s:Rs) (out:List UInt8),s.ok B.length→s.inn B.length→(exF B bound f s out).1.inn B.length
 | 0,s,out,_,h=>h
 | f+1,s,out,h1,h2=>by
  simp only[exF];split
  ·exact Qz f _ _ (GF h1) (Pd h1 h2)
  ·exact h2
theorem Mw{B:List UInt8}{bound:Int}:∀(f:Nat) (s:Rs) (out:List UInt8),Mv bound out→Mv bound (exF B bound f s out).2
 | 0,s,out,h=>h
 | f+1,s,out,h=>by
  simp only[exF];split
  ·exact Mw f _ _ (Ir h)
  ·exact h
theorem Is(B:List UInt8)(bound:Int):(exB B bound).1.length≤bound.toNat∧0≤(exB B bound).2.2∧(exB B bound).2.2≤B.length∧((exB B bound).2.1≠0→(exB B bound).1=[]):=by
 have h1:=Qz (B:=B) (bound:=bound) B.length ⟨0,0,0⟩ [] ⟨Am _,fun _=>rfl⟩ ⟨zR,zR⟩
 have h2:=Mw (B:=B) (bound:=bound) B.length ⟨0,0,0⟩ [] (.inl rfl)
 unfold exB;split
 ·refine⟨?_,zR,zR,zR⟩
  rcases h2 with h | h
  ·rw[h];simp
  ·dsimp only;omega
 ·exact⟨zR,h1.1,h1.2,zR⟩
theorem Rs.Qp{B:List UInt8}{s:Rs}{m:Int}:s.p≤(s.int B m).1.p:=by
 unfold Rs.int Rs.most;split
 ·split
  ·rw[Rs.Lu];exact Rs.Qg
  ·exact Rs.Qg
 ·rw[Rs.Lu];exact Rs.Qg
theorem Rs.Iv{B:List UInt8}{s:Rs}(h:s.ok B.length):s.p≤(s.byte B).1.p:=Rs.PE h 1
theorem Rs.MW{B:List UInt8}{s:Rs}(h:s.ok B.length)(n:Int):s.p≤(s.take B n).1.p:=Rs.PE h n
theorem Rs.QH{B:List UInt8}{s:Rs}(h:s.ok B.length)(m:Int):s.p≤(s.BS B m).1.p:=AV (Rs.Qp (m:=m)) (Rs.MW (Rs.DE h) _)
theorem Rs.GJ{B:List UInt8}{s:Rs}(h:s.ok B.length)(m:Int):(s.BS B m).1.ok B.length:=Rs.Hg (Rs.DE h) _
def Rs.unp(B:List UInt8)(s:Rs)(n:Nat):Rs × List UInt8:=
 if (s.BS B 1048576).1.k=0 then
  (if (exB (s.BS B 1048576).2 n).2.1=0 then
   (if (exB (s.BS B 1048576).2 n).1.length<n then ((s.BS B 1048576).1.fail 3 (s.BS B 1048576).1.p,(exB (s.BS B 1048576).2 n).1) else ((s.BS B 1048576).1,(exB (s.BS B 1048576).2 n).1))
  else ((s.BS B 1048576).1.fail (exB (s.BS B 1048576).2 n).2.1 ((exB (s.BS B 1048576).2 n).2.2+(((s.BS B 1048576).1.p:Int)-((s.BS B 1048576).2.length:Int))),[]))
 else ((s.BS B 1048576).1,[])
theorem Rs.Py{B:List UInt8}{s:Rs}(h:s.ok B.length)(n:Nat):(s.unp B n).1.ok B.length:=by
 unfold Rs.unp;split
 ·split
  ·split
   ·exact Rs.BH (Rs.GJ h _) zD
   ·exact Rs.GJ h _
  ·exact Rs.BH (Rs.GJ h _) zO
 ·exact Rs.GJ h _
theorem Rs.RL{B:List UInt8}{s:Rs}(h:s.ok B.length)(n:Nat):s.p≤(s.unp B n).1.p:=by
 have:=Rs.QH h 1048576
 unfold Rs.unp;split
 ·split
  ·split
   ·rw[Rs.Lu];exact this
   ·exact this
  ·rw[Rs.Lu];exact this
 ·exact this
theorem Rs.Om{B:List UInt8}{s:Rs}(n:Nat):(s.unp B n).2.length≤n:=by
 have:=(Is (s.BS B 1048576).2 n).1
 unfold Rs.unp;split
 ·split
  ·split
   ·dsimp only;omega
   ·dsimp only;omega
  ·simp
 ·simp
def Rs.loose(B:List UInt8)(s:Rs)(most:Int):Rs × List UInt8 × Bool:=
 if ((s.int B (min most 1048576)).1.byte B).1.k=0 then
  (if ((s.int B (min most 1048576)).1.byte B).2.toNat=0 then
   (if (((s.int B (min most 1048576)).1.byte B).1.take B ((s.int B (min most 1048576)).2:Int)).1.k=0 then ((((s.int B (min most 1048576)).1.byte B).1.take B ((s.int B (min most 1048576)).2:Int)).1,(((s.int B (min most 1048576)).1.byte B).1.take B ((s.int B (min most 1048576)).2:Int)).2,decide (Cw (((s.int B (min most 1048576)).1.byte B).1.take B ((s.int B (min most 1048576)).2:Int)).2=(B.drop s.p).take ((((s.int B (min most 1048576)).1.byte B).1.take B ((s.int B (min most 1048576)).2:Int)).1.p-s.p)))
   else ((((s.int B (min most 1048576)).1.byte B).1.take B ((s.int B (min most 1048576)).2:Int)).1,[],false))
  else if ((s.int B (min most 1048576)).1.byte B).2.toNat=1 then
   (if (((s.int B (min most 1048576)).1.byte B).1.unp B (s.int B (min most 1048576)).2).1.k=0 then ((((s.int B (min most 1048576)).1.byte B).1.unp B (s.int B (min most 1048576)).2).1,(((s.int B (min most 1048576)).1.byte B).1.unp B (s.int B (min most 1048576)).2).2,decide (Cw (((s.int B (min most 1048576)).1.byte B).1.unp B (s.int B (min most 1048576)).2).2=(B.drop s.p).take ((((s.int B (min most 1048576)).1.byte B).1.unp B (s.int B (min most 1048576)).2).1.p-s.p)))
   else ((((s.int B (min most 1048576)).1.byte B).1.unp B (s.int B (min most 1048576)).2).1,[],false))
  else (((s.int B (min most 1048576)).1.byte B).1.fail 7 ((((s.int B (min most 1048576)).1.byte B).1.p:Int)-1),[],false))
 else (((s.int B (min most 1048576)).1.byte B).1,[],false)
theorem IY(x y:List UInt8)(a a':Option Addr)(n c n' c':Nat)(w:World)(hx:Ah.r (·<w.heap.size) w [.slice a n c] x)(hy:Ah.r (·<w.heap.size) w [.slice a' n' c'] y):
  Calls Tryz.prog 97 #[.slice a n c,.slice a' n' c'] w fun r w'=>r=.returned (.bool (decide (x=y)))∧w=w':=by
 obtain⟨rfl,_,_,_⟩:=AW hx
 obtain⟨rfl,_,_,_⟩:=AW hy
 have h1:=GI (P:=Tryz.prog) 25 9 5 Tryz.underlying25 Tryz.underlying5 Tryz.underlying9 hx
 have h2:=GI (P:=Tryz.prog) 25 9 5 Tryz.underlying25 Tryz.underlying5 Tryz.underlying9 hy
 have he:(x==y)=decide (x=y):=by
  by_cases h:x=y
  ·simp[h]
  ·simp[h]
 have HE:=hid he;clear he hx hy
 go_enter Tryz.func97,Tryz.ntmps97
 go_wp2;go_ret;refine⟨?_,rfl⟩
 rw[←HE.out]
 simp[go_sem]
theorem Ms(w:World)(k f b:Int)(hk:k≠0)(hf: -1000000000000≤f∧f≤1000000000000)(hb: -1000000000000≤b∧b≤1000000000000):Calls Tryz.prog 143 #[.agg #[.int .i64 k,.int .i64 f],.int .i64 b] w fun r w'=>r=.returned (.agg #[.int .i64 k,.int .i64 (f+b)])∧Below w.heap.size w w':=by
 go_enter Tryz.func143,Tryz.ntmps143
 go_wp2_with fail;refine (Mt _ k (f+b) hk).mono ?_
 rintro r w1 ⟨rfl,hb1⟩;have B1:Blk w1 (w.heap.size+1) 58 #[.int .i64 0,.int .i64 0]:=Blk.later zB hb1
 obtain⟨y0,y1,g0,g1,l1⟩:=CQ B1
 have hbw:Below w.heap.size w w1:=zA
 clear B1 hb1;go_wp2;refine Ag (v:=.agg #[.int .i64 k,.int .i64 (f+b)]) (by simp[results,Tryz.results143,go_sem,y0,y1,l1]) rfl ⟨rfl,zA⟩
theorem JU(w:World){g:Nat}{B:List UInt8}{a:Option Addr}{s:Rs}(h:AQ w g B a s)(hB:B.length≤1000000000)(n:Nat)(hn:n≤1048576):Calls Tryz.prog 199 #[.pointer (some ⟨g,0,none⟩),.int .i64 (n:Int)] w fun r w'=>∃v,r=.returned v∧Ah.r (fun q=>w.heap.size≤q∧q<w'.heap.size) w' [v] (s.unp B n).2∧Az w g B a (s.unp B n).1 w':=by
 have HB:=hid (Po w h zD 1048576 zD)
 have hbok:=Rs.GJ h.ok 1048576
 have hlen:(s.BS B 1048576).2.length≤B.length:=by
  unfold Rs.BS Rs.take;dsimp only;split
  ·simp;omega
  ·simp
 have hxf:=Is (s.BS B 1048576).2 n
 have hX:=hid (fun (W:World) (aD:Option Addr) (nD cD:Nat) (hl:Ah.r (·<W.heap.size) W [.slice aD nD cD] (s.BS B 1048576).2)=>Lv W (s.BS B 1048576).2 aD nD cD hl zD n zD)
 have hpl:=hbok.le
 unfold Rs.unp;generalize s.BS B 1048576=T at*
 generalize exB T.2 n=X at*
 obtain⟨s1,D⟩:=T
 obtain⟨out,k,f⟩:=X
 dsimp only at*;have hgl:=h.blk.lt
 have HDAT:=hid h.dat
 clear h;by_cases h1:s1.k=0
 ·have dk:decide (s1.k=0)=true:=Ae h1
  rw[Al h1]
  have H1:=hid h1
  clear h1;by_cases h2:k=0
  ·have d2:decide (k=0)=true:=Ae h2
   rw[Al h2]
   clear h2;by_cases h3:out.length<n
   ·have d3:decide ((out.length:Int)<(n:Int))=true:=Ae zD
    have d3':decide (out.length<n)=true:=Ae h3
    rw[Al h3]
    clear h3;dsimp only;go_enter Tryz.func199,Tryz.ntmps199
    go_wp2_with fail;refine HB.out.mono ?_
    rintro r w1 ⟨v,rfl,hr,hst⟩;obtain⟨aD,cD,hv,hr2,_⟩:=Au hr
    simp only[Aj,At] at hv
    subst hv;have HD1:=hid hr2
    have HST:=hid hst
    have hs1:=hst.size
    have hG:=AA w1 hst.1
    rw[dk] at hG
    have HG:=hid hG
    clear hr hr2 hst hG dk;go_wp2_with fail;refine HG.out.mono ?_
    rintro r w2 ⟨rfl,hb2⟩;have hs2:=hb2.size
    have HAT:=hid (Bz w2 (HST.out.1.later hb2))
    go_wp2_with fail;refine HAT.out.mono ?_
    rintro r w2' ⟨rfl,rfl⟩;go_wp2_with fail;refine (hX.out w2 aD _ cD (Ah.mono (Ah.keep HD1.out fun q hq=>hb2.block q hq.2) fun q hq=>zD)).mono ?_
    rintro r w3 ⟨v3,rfl,hr,hb3⟩;obtain⟨a3,c3,hv,hr2,_⟩:=Au hr
    simp only[Aj,At] at hv
    subst hv;have HR3:=hid hr2
    have hs3:=hb3.size
    clear hr hr2;have hG:=Em (w3.alloc (.cells #[.int .i64 k,.int .i64 f] 58)) k f
    rw[d2] at hG
    have HG3:=hid hG
    clear hG d2;go_wp2_with fail;refine HG3.out.mono ?_
    rintro r w4 ⟨rfl,hb4⟩;have hb34:Below w3.heap.size w3 w4:=zA
    have hb14:Below w1.heap.size w1 w4:=Af hb34 (Af hb3 hb2)
    have HST4:=hid (HST.out.then hb14)
    have hs4:=hb34.size
    have HKP:=hid (Ah.mono (S':=fun q=>w2.heap.size≤q∧q<w4.heap.size) (Ah.keep HR3.out fun q hq=>hb34.block q hq.2) fun q hq=>⟨hq.1,zD⟩)
    have HAT2:=hid (Bz _ HST4.out.1)
    go_wp2_with fail;refine HAT2.out.mono ?_
    rintro r w4' ⟨rfl,rfl⟩;have HF:=hid (Bj _ HST4.out.1 3 s1.p zD)
    go_wp2_with fail;refine HF.out.mono ?_
    rintro r w5 ⟨rfl,hst5⟩;have hs5:=hst5.size
    have HR5:=hid (Ah.mono (S':=fun q=>w.heap.size≤q∧q<w5.heap.size) (Ah.keep HKP.out fun q hq=>hst5.2.block q hq.2 zD) fun q hq=>⟨zD,zD⟩)
    have HST5:=hid (Az.trans HST4.out.2 hst5)
    clear hst5;go_wp2;go_ret;exact⟨_,rfl,HR5.out,HST5.out⟩
   ·have d3:decide ((out.length:Int)<(n:Int))=false:=Ad zD
    have d3':decide (out.length<n)=false:=Ad h3
    rw[Ak h3]
    clear h3;dsimp only;go_enter Tryz.func199,Tryz.ntmps199
    go_wp2_with fail;refine HB.out.mono ?_
    rintro r w1 ⟨v,rfl,hr,hst⟩;obtain⟨aD,cD,hv,hr2,_⟩:=Au hr
    simp only[Aj,At] at hv
    subst hv;have HD1:=hid hr2
    have HST:=hid hst
    have hs1:=hst.size
    have hG:=AA w1 hst.1
    rw[dk] at hG
    have HG:=hid hG
    clear hr hr2 hst hG dk;go_wp2_with fail;refine HG.out.mono ?_
    rintro r w2 ⟨rfl,hb2⟩;have hs2:=hb2.size
    have HAT:=hid (Bz w2 (HST.out.1.later hb2))
    go_wp2_with fail;refine HAT.out.mono ?_
    rintro r w2' ⟨rfl,rfl⟩;go_wp2_with fail;refine (hX.out w2 aD _ cD (Ah.mono (Ah.keep HD1.out fun q hq=>hb2.block q hq.2) fun q hq=>zD)).mono ?_
    rintro r w3 ⟨v3,rfl,hr,hb3⟩;obtain⟨a3,c3,hv,hr2,_⟩:=Au hr
    simp only[Aj,At] at hv
    subst hv;have HR3:=hid hr2
    have hs3:=hb3.size
    clear hr hr2;have hG:=Em (w3.alloc (.cells #[.int .i64 k,.int .i64 f] 58)) k f
    rw[d2] at hG
    have HG3:=hid hG
    clear hG d2;go_wp2_with fail;refine HG3.out.mono ?_
    rintro r w4 ⟨rfl,hb4⟩;have hb34:Below w3.heap.size w3 w4:=zA
    have hb14:Below w1.heap.size w1 w4:=Af hb34 (Af hb3 hb2)
    have HST4:=hid (HST.out.then hb14)
    have hs4:=hb34.size
    have HKP:=hid (Ah.mono (S':=fun q=>w2.heap.size≤q∧q<w4.heap.size) (Ah.keep HR3.out fun q hq=>hb34.block q hq.2) fun q hq=>⟨hq.1,zD⟩)
    have HR5:=hid (Ah.mono (S':=fun q=>w.heap.size≤q∧q<w4.heap.size) HKP.out fun q hq=>⟨zD,zD⟩)
    go_wp2;go_ret;exact⟨_,rfl,HR5.out,HST4.out⟩
  ·have d2:decide (k=0)=false:=Ad h2
   rw[Ak h2]
   have ho:=hxf.2.2.2 h2
   subst ho;have HK2:=hid h2
   clear h2;dsimp only;go_enter Tryz.func199,Tryz.ntmps199
   go_wp2_with fail;refine HB.out.mono ?_
   rintro r w1 ⟨v,rfl,hr,hst⟩;obtain⟨aD,cD,hv,hr2,_⟩:=Au hr
   simp only[Aj,At] at hv
   subst hv;have HD1:=hid hr2
   have HST:=hid hst
   have hs1:=hst.size
   have hG:=AA w1 hst.1
   rw[dk] at hG
   have HG:=hid hG
   clear hr hr2 hst hG dk;go_wp2_with fail;refine HG.out.mono ?_
   rintro r w2 ⟨rfl,hb2⟩;have hs2:=hb2.size
   have HAT:=hid (Bz w2 (HST.out.1.later hb2))
   go_wp2_with fail;refine HAT.out.mono ?_
   rintro r w2' ⟨rfl,rfl⟩;go_wp2_with fail;refine (hX.out w2 aD _ cD (Ah.mono (Ah.keep HD1.out fun q hq=>hb2.block q hq.2) fun q hq=>zD)).mono ?_
   rintro r w3 ⟨v3,rfl,hr,hb3⟩;obtain⟨a3,c3,hv,hr2,_⟩:=Au hr
   simp only[Aj,At] at hv
   subst hv;have HR3:=hid hr2
   have hs3:=hb3.size
   clear hr hr2;have hG:=Em (w3.alloc (.cells #[.int .i64 k,.int .i64 f] 58)) k f
   rw[d2] at hG
   have HG3:=hid hG
   clear hG d2;go_wp2_with fail;refine HG3.out.mono ?_
   rintro r w4 ⟨rfl,hb4⟩;have hb34:Below w3.heap.size w3 w4:=zA
   have hb14:Below w1.heap.size w1 w4:=Af hb34 (Af hb3 hb2)
   have HST4:=hid (HST.out.then hb14)
   have hs4:=hb34.size
   have HKP:=hid (Ah.mono (S':=fun q=>w2.heap.size≤q∧q<w4.heap.size) (Ah.keep HR3.out fun q hq=>hb34.block q hq.2) fun q hq=>⟨hq.1,zD⟩)
   have B4:Blk w4 w3.heap.size 58 #[.int .i64 k,.int .i64 f]:=Blk.later (Blk.newAt _ _ _ rfl) hb4
   obtain⟨y0,y1,g0,g1,l1⟩:=CQ B4
   have HSH:=hid (Ms w4 k f ((s1.p:Int)-(D.length:Int)) HK2.out zD zD)
   go_wp2_with fail;refine HSH.out.mono ?_
   rintro r w5 ⟨rfl,hb5⟩;have B5:=B4.later hb5
   clear y0 y1 g0 g1 l1 B4;obtain⟨y0,y1,g0,g1,l1⟩:=CQ B5
   clear B5;have hk5:Az w g B a s1 ((w5.setCell ⟨w3.heap.size,0,none⟩ (.int .i64 k)).setCell ⟨w3.heap.size,1,none⟩ (.int .i64 (f+((s1.p:Int)-(D.length:Int))))):=by
    have h5:=HST4.out.then hb5
    refine⟨⟨Blk.far (Blk.far h5.1.blk zF _) zF _,?_,h5.1.ok⟩,Tch.setCell (Tch.setCell h5.2 (fun e=>by dsimp only at e;omega) _) (fun e=>by dsimp only at e;omega) _⟩
    refine Ah.mono (Ah.keep (S:=fun q=>q<w.heap.size∧q≠g) (Ah.keep HDAT.out fun q hq=>h5.2.block q hq.1 hq.2) fun q hq=> ?_) fun q hq=>⟨by have:=h5.size;simp[World.setCell];omega,hq.2⟩
    have:=hq.1
    rw[Below.heap_setCell _ _ _ _ zF,Below.heap_setCell _ _ _ _ zF]
   have HK5:=hid hk5
   clear hk5;have hsz5:w.heap.size≤((w5.setCell ⟨w3.heap.size,0,none⟩ (.int .i64 k)).setCell ⟨w3.heap.size,1,none⟩ (.int .i64 (f+((s1.p:Int)-(D.length:Int))))).heap.size:=HK5.out.size
   have HF:=hid (Bj _ HK5.out.1 k (f+((s1.p:Int)-(D.length:Int))) HK2.out)
   go_wp2_with fail;refine HF.out.mono ?_
   rintro r w6 ⟨rfl,hst6⟩;have HST6:=hid (Az.trans HK5.out.2 hst6)
   clear hst6 hsz5;go_wp2;go_ret;exact⟨_,rfl,AJ rfl rfl (AW HR3.out).2.2.2,HST6.out⟩
 ·have dk:decide (s1.k=0)=false:=Ad h1
  rw[Ak h1]
  clear h1;dsimp only;go_enter Tryz.func199,Tryz.ntmps199
  go_wp2_with fail;refine HB.out.mono ?_
  rintro r w1 ⟨v,rfl,hr,hst⟩;obtain⟨aD,cD,hv,hr2,_⟩:=Au hr
  simp only[Aj,At] at hv
  subst hv;have HD1:=hid hr2
  have HST:=hid hst
  have hs1:=hst.size
  have hG:=AA w1 hst.1
  rw[dk] at hG
  have HG:=hid hG
  clear hr hr2 hst hG dk;go_wp2_with fail;refine HG.out.mono ?_
  rintro r w2 ⟨rfl,hb2⟩;have hs2:=hb2.size
  have HST2:=hid (HST.out.then hb2)
  go_wp2;go_ret;exact⟨_,rfl,AJ rfl rfl zD,HST2.out⟩
end Go.Proofs.YtlbffbkbkajciaaGreat
