/- Mini: Needed by rpcReads_walk, part 8: texts put together by shake.py; no condition. -/
import Derived.Test.YtlbffbkbkajciaaGreatZU5
import Derived.Test.YtlbffbkbkajciaaGreatZU3
import Derived.Laws.Bits64
import Derived.Test.YtlbffbkbkajciaaGreatZU7
import Derived.Test.YtlbffbkbkajciaaGreatZU4
import Derived.Test.YtlbffbkbkajciaaGreatZU1
import Derived.Test.YtlbffbkbkajciaaGreatZU6
import Derived.Deep.RegionHeld3
import Derived.Test.YtlbffbkbkajciaaGreatZU2
set_option linter.unusedVariables false
set_option linter.unusedSimpArgs false
set_option maxRecDepth 100000
set_option maxHeartbeats 6400000
namespace Go.Bs
variable{c i n:Nat}{a:Option Addr}{v:Value}
theorem zC3{p:Prop}(h:p:=by rw [hf.out, hst.out, hg.out, KH]; rfl):p:=h
theorem zC1{p:Prop}(h:p:=by rw [hstep, Ak (fun h => h.1 hnil), An hnil]):p:=h
theorem zCd{p:Prop}(h:p:=by rw [hg.out, hsj.out]; simp only [hc', Bool.not_false, Cw]):p:=h
theorem zBz{p:Prop}(h:p:=by have := (HO3.out.lt _ e.symm).2; omega):p:=h
theorem zBs{p:Prop}(h:p:=by rw [hf.out, hst.out, hg.out, hsj.out]; simp only [hc, Bool.not_true, JB]):p:=h
theorem zBm{p:Prop}(h:p:=by rw [Au]; go_num):p:=h
theorem zA4{p:Prop}(h:p:=by rw [Au]; exact HSP.out):p:=h
theorem zAx{p:Prop}(h:p:=by simp [results, Tryz.results203, go_sem, y0, y1, y2, y3, l1]):p:=h
theorem zAb{p:Prop}(h:p:=by rw [Au]; simp; omega):p:=h
theorem ZA{p:Prop}(h:p:=by simp [results, Tryz.results121, go_sem, y0, y1, y2, y3, l1]):p:=h
theorem Gd:type_of% @Proofs.Tryz.ntmps121:=@Proofs.Tryz.ntmps121
theorem G4:type_of% @Proofs.Tryz.func121:=@Proofs.Tryz.func121
theorem JB:type_of% @Bool.false_and:=@Bool.false_and
end Go.Bs
namespace Go.Proofs.YtlbffbkbkajciaaGreat
open Go.RowKit Go.Bs Go.Maps
variable{h:Bool}{B:List UInt8}{xs:List Value}{base g lo n size:Nat}{s:Rs}{e:TypeId}{v:Value}{W w:World}
theorem Rs.Ox{m:Int}(h:(s.int B m).1.k≠0):(s.int B m).2=0:=by
 unfold Rs.int Rs.most at*;split at h
 ·split at h
  ·rename_i h1 h2;rw[An h1,An h2]
  ·rename_i h1 h2;rw[An h1,Ak h2];exact Rs.Gg h
 ·rename_i h1;rw[Ak h1]
theorem CR(n:Int):0≤IntKind.u64.wrap n∧IntKind.u64.wrap n≤18446744073709551615:=by
 rw[KJ];omega
theorem Fi{a b c d:Value}(h:w.ownsRow lo e size v n xs)(hg:g<lo):((((w.setCell ⟨g,0,none⟩ a).setCell ⟨g,1,none⟩ b).setCell ⟨g,2,none⟩ c).setCell ⟨g,3,none⟩ d).ownsRow lo e size v n xs:=
 Mw h fun q hv _=>by
  have:=(Dm h q hv).1;repeat rw[Ap _ _ _ _ zH]
theorem RW{a b c d:Value}{o:Obj}(h:w.ownsRow lo e size v n xs)(hg:v.ownBlock≠some g):(((((w.setCell ⟨g,0,none⟩ a).setCell ⟨g,1,none⟩ b).setCell ⟨g,2,none⟩ c).setCell ⟨g,3,none⟩ d).alloc o).ownsRow lo e size v n xs:=
 Mw h fun q hv hl=>by
  have hq:q≠g:=fun e=>hg (e ▸ hv);rw[A2 _ _ q (by simpa using hl)];repeat rw[Ap _ _ _ _ hq]
theorem Lc(w:World)(a:Option Addr)(c:Nat)(B:List UInt8)(hl:Ah.r (·<w.heap.size) w [.slice a B.length c] B)(s:Rs)(hs:s.ok B.length)(hB:B.length≤1000000000000):
  Calls Tryz.prog 121 #[CV a B.length c s,.int .i64 1] w fun r w'=>r=.returned (.tuple #[CV a B.length c (s.ep B).1,.int .u64 ((s.ep B).2:Int)])∧Below w.heap.size w w':=by
 have hR:=hid (fun (W:World) (hW:Below w.heap.size w W)=>CM W a c B (lift hl hW) s hs hB);have hF:=hid (fun (W:World) (t:Rs)=>Bk W a B.length c t 3 s.p zD);unfold Rs.ep;generalize s.num B=N at*;obtain⟨s1,x⟩:=N;dsimp only at*;clear hl hs;unfold CV at*;have hx0:(0:Int)≤(x:Int):=zD;by_cases hk:s1.k=0
 ·rw[An hk]
  have d0:(s1.k !=(0:Int))=false:=zAs;clear hk;by_cases he:epR (x:Int)=true
  ·rw[An he]
   have HR:=hid (fun (W:World)=>(by have:=Kf (x:Int) hx0 W;rw[he] at this;exact this:Calls Tryz.prog 114 #[.int .u64 (x:Int)] W fun r w'=>r=.returned (.bool true)∧W=w'));clear he hF;go_enter G4,Gd;go_wp2_with fail;refine (hR.out _ zA).mono ?_;rintro r w1 ⟨rfl,hb⟩;have B0:Blk w1 w.heap.size 60 #[.slice a B.length c,.int .i64 (s.p:Int),.int .i64 s.k,.int .i64 s.f]:=Blk.later zB hb;have B1:Blk w1 (w.heap.size+1) 60 #[.slice none 0 0,.int .i64 0,.int .i64 0,.int .i64 0]:=Blk.later zB hb;have hbw:Below w.heap.size w w1:=zA;obtain⟨x0,x1,x2,x3,f0,f1,f2,f3,l0⟩:=Aq B0;obtain⟨y0,y1,y2,y3,g0,g1,g2,g3,l1⟩:=Aq B1;clear hb;go_wp2_with fail;refine (HR.out _).mono ?_;rintro r w2 ⟨rfl,rfl⟩;go_wp2;refine Af (v:=.tuple #[.agg #[.slice a B.length c,.int .i64 (s1.p:Int),.int .i64 s1.k,.int .i64 s1.f],.int .u64 (x:Int)]) ZA rfl ⟨rfl,zA⟩
  ·rw[Ak he]
   have HR:=hid (fun (W:World)=>(by have:=Kf (x:Int) hx0 W;rw[Bool.eq_false_iff.2 he] at this;exact this:Calls Tryz.prog 114 #[.int .u64 (x:Int)] W fun r w'=>r=.returned (.bool false)∧W=w'));have HF:=hid (fun (W:World)=>hF.out W s1);clear he hF;dsimp only;generalize s1.fail 3 s.p=s2 at*;go_enter G4,Gd;go_wp2_with fail;refine (hR.out _ zA).mono ?_;rintro r w1 ⟨rfl,hb⟩;have B0:Blk w1 w.heap.size 60 #[.slice a B.length c,.int .i64 (s.p:Int),.int .i64 s.k,.int .i64 s.f]:=Blk.later zB hb;have B1:Blk w1 (w.heap.size+1) 60 #[.slice none 0 0,.int .i64 0,.int .i64 0,.int .i64 0]:=Blk.later zB hb;have hbw:Below w.heap.size w w1:=zA;obtain⟨x0,x1,x2,x3,f0,f1,f2,f3,l0⟩:=Aq B0;obtain⟨y0,y1,y2,y3,g0,g1,g2,g3,l1⟩:=Aq B1;clear hb;go_wp2_with fail;refine (HR.out _).mono ?_;rintro r w2 ⟨rfl,rfl⟩;go_wp2_with fail;refine (HF.out _).mono ?_;rintro r w3 ⟨rfl,hb3⟩;have B3:Blk w3 (w.heap.size+1) 60 #[.slice none 0 0,.int .i64 0,.int .i64 0,.int .i64 0]:=Blk.later (B1.alloc _) hb3;have hbw3:Below w.heap.size w w3:=zA;obtain⟨y0,y1,y2,y3,g0,g1,g2,g3,l1⟩:=Aq B3;clear hb3;go_wp2;refine Af (v:=.tuple #[.agg #[.slice a B.length c,.int .i64 (s2.p:Int),.int .i64 s2.k,.int .i64 s2.f],.int .u64 0]) ZA rfl ⟨rfl,zA⟩
 ·rw[Ak hk]
  have d0:(s1.k !=(0:Int))=true:=zAs;clear hk hF;dsimp only;go_enter G4,Gd;go_wp2_with fail;refine (hR.out _ zA).mono ?_;rintro r w1 ⟨rfl,hb⟩;have B0:Blk w1 w.heap.size 60 #[.slice a B.length c,.int .i64 (s.p:Int),.int .i64 s.k,.int .i64 s.f]:=Blk.later zB hb;have B1:Blk w1 (w.heap.size+1) 60 #[.slice none 0 0,.int .i64 0,.int .i64 0,.int .i64 0]:=Blk.later zB hb;have hbw:Below w.heap.size w w1:=zA;obtain⟨x0,x1,x2,x3,f0,f1,f2,f3,l0⟩:=Aq B0;obtain⟨y0,y1,y2,y3,g0,g1,g2,g3,l1⟩:=Aq B1;clear hb;go_wp2;refine Af (v:=.tuple #[.agg #[.slice a B.length c,.int .i64 (s1.p:Int),.int .i64 s1.k,.int .i64 s1.f],.int .u64 0]) ZA rfl ⟨rfl,zA⟩
theorem SX(w:World)(a:Option Addr)(c:Nat)(B:List UInt8)(hl:Ah.r (·<w.heap.size) w [.slice a B.length c] B)(s:Rs)(hs:s.ok B.length)(hB:B.length≤1000000000000):
  Calls Tryz.prog 121 #[CV a B.length c s,.int .i64 2] w fun r w'=>r=.returned (.tuple #[CV a B.length c (s.po B).1,.int .u64 ((s.po B).2:Int)])∧Below w.heap.size w w':=by
 have hR:=hid (fun (W:World) (hW:Below w.heap.size w W)=>CM W a c B (lift hl hW) s hs hB);have hF:=hid (fun (W:World) (t:Rs)=>Bk W a B.length c t 3 s.p zD);unfold Rs.po;generalize s.num B=N at*;obtain⟨s1,x⟩:=N;dsimp only at*;clear hl hs;unfold CV at*;have hx0:(0:Int)≤(x:Int):=zD;by_cases hk:s1.k=0
 ·rw[An hk]
  have d0:(s1.k !=(0:Int))=false:=zAs;clear hk;by_cases he:poR (x:Int)=true
  ·rw[An he]
   have HR:=hid (fun (W:World)=>(by have:=Mo (x:Int) W;rw[he] at this;exact this:Calls Tryz.prog 89 #[.int .u64 (x:Int)] W fun r w'=>r=.returned (.bool true)∧W=w'));clear he hF;go_enter G4,Gd;go_wp2_with fail;refine (hR.out _ zA).mono ?_;rintro r w1 ⟨rfl,hb⟩;have B0:Blk w1 w.heap.size 60 #[.slice a B.length c,.int .i64 (s.p:Int),.int .i64 s.k,.int .i64 s.f]:=Blk.later zB hb;have B1:Blk w1 (w.heap.size+1) 60 #[.slice none 0 0,.int .i64 0,.int .i64 0,.int .i64 0]:=Blk.later zB hb;have hbw:Below w.heap.size w w1:=zA;obtain⟨x0,x1,x2,x3,f0,f1,f2,f3,l0⟩:=Aq B0;obtain⟨y0,y1,y2,y3,g0,g1,g2,g3,l1⟩:=Aq B1;clear hb;go_wp2_with fail;refine (HR.out _).mono ?_;rintro r w2 ⟨rfl,rfl⟩;go_wp2;refine Af (v:=.tuple #[.agg #[.slice a B.length c,.int .i64 (s1.p:Int),.int .i64 s1.k,.int .i64 s1.f],.int .u64 (x:Int)]) ZA rfl ⟨rfl,zA⟩
  ·rw[Ak he]
   have HR:=hid (fun (W:World)=>(by have:=Mo (x:Int) W;rw[Bool.eq_false_iff.2 he] at this;exact this:Calls Tryz.prog 89 #[.int .u64 (x:Int)] W fun r w'=>r=.returned (.bool false)∧W=w'));have HF:=hid (fun (W:World)=>hF.out W s1);clear he hF;dsimp only;generalize s1.fail 3 s.p=s2 at*;go_enter G4,Gd;go_wp2_with fail;refine (hR.out _ zA).mono ?_;rintro r w1 ⟨rfl,hb⟩;have B0:Blk w1 w.heap.size 60 #[.slice a B.length c,.int .i64 (s.p:Int),.int .i64 s.k,.int .i64 s.f]:=Blk.later zB hb;have B1:Blk w1 (w.heap.size+1) 60 #[.slice none 0 0,.int .i64 0,.int .i64 0,.int .i64 0]:=Blk.later zB hb;have hbw:Below w.heap.size w w1:=zA;obtain⟨x0,x1,x2,x3,f0,f1,f2,f3,l0⟩:=Aq B0;obtain⟨y0,y1,y2,y3,g0,g1,g2,g3,l1⟩:=Aq B1;clear hb;go_wp2_with fail;refine (HR.out _).mono ?_;rintro r w2 ⟨rfl,rfl⟩;go_wp2_with fail;refine (HF.out _).mono ?_;rintro r w3 ⟨rfl,hb3⟩;have B3:Blk w3 (w.heap.size+1) 60 #[.slice none 0 0,.int .i64 0,.int .i64 0,.int .i64 0]:=Blk.later (B1.alloc _) hb3;have hbw3:Below w.heap.size w w3:=zA;obtain⟨y0,y1,y2,y3,g0,g1,g2,g3,l1⟩:=Aq B3;clear hb3;go_wp2;refine Af (v:=.tuple #[.agg #[.slice a B.length c,.int .i64 (s2.p:Int),.int .i64 s2.k,.int .i64 s2.f],.int .u64 0]) ZA rfl ⟨rfl,zA⟩
 ·rw[Ak hk]
  have d0:(s1.k !=(0:Int))=true:=zAs;clear hk hF;dsimp only;go_enter G4,Gd;go_wp2_with fail;refine (hR.out _ zA).mono ?_;rintro r w1 ⟨rfl,hb⟩;have B0:Blk w1 w.heap.size 60 #[.slice a B.length c,.int .i64 (s.p:Int),.int .i64 s.k,.int .i64 s.f]:=Blk.later zB hb;have B1:Blk w1 (w.heap.size+1) 60 #[.slice none 0 0,.int .i64 0,.int .i64 0,.int .i64 0]:=Blk.later zB hb;have hbw:Below w.heap.size w w1:=zA;obtain⟨x0,x1,x2,x3,f0,f1,f2,f3,l0⟩:=Aq B0;obtain⟨y0,y1,y2,y3,g0,g1,g2,g3,l1⟩:=Aq B1;clear hb;go_wp2;refine Af (v:=.tuple #[.agg #[.slice a B.length c,.int .i64 (s1.p:Int),.int .i64 s1.k,.int .i64 s1.f],.int .u64 0]) ZA rfl ⟨rfl,zA⟩
theorem Py(w:World)(a:Option Addr)(c:Nat)(B:List UInt8)(hl:Ah.r (·<w.heap.size) w [.slice a B.length c] B)(s:Rs)(hs:s.ok B.length)(hB:B.length≤1000000000000)(below:Int)(hbl:0≤below∧below≤18446744073709551615)(most:Int)(hmo:0≤most∧most≤1000):
  Calls Tryz.prog 203 #[CV a B.length c s,.int .u64 below,.int .i64 most] w fun r w'=>∃v,r=.returned (.tuple #[CV a B.length c (s.delta B below most).1,v])∧AV.r (CO w w') w' [v] (s.delta B below most).2∧Below w.heap.size w w':=by
 obtain⟨i0,hi,hz0,hz1,hz2⟩:=Bc Oz;have hI:=hid (fun (W:World) (hW:Below w.heap.size w W)=>Ex W a c B (lift hl hW) s hs hB most zD);have hNm:=Rs.FW (B:=B) (s:=s) (m:=most);have hNz:=Rs.Ox (B:=B) (s:=s) (m:=most);have hok:=Rs.Eh (B:=B) hs (m:=most);have HL:=hid hl;unfold Rs.delta;generalize s.int B most=I at*;obtain⟨s1,N⟩:=I;dsimp only at*;have hN:N≤1000:=zD;have HNZ:=hid hNz;have HOK:=hid hok;clear hl hs hNz hok hNm;unfold CV at*;go_enter Tryz.func203,Tryz.ntmps203;go_wp2_with fail;refine (hI.out _ zA).mono ?_;rintro r w1 ⟨rfl,hb⟩;have B1:Blk w1 (w.heap.size+1) 60 #[.slice none 0 0,.int .i64 0,.int .i64 0,.int .i64 0]:=Blk.later zB hb;have hbw:Below w.heap.size w w1:=zA;have hs1:=hb.size;simp at hs1;have l1:=B1.lt;have BD:Blk (w1.alloc (.cells #[.slice a B.length c,.int .i64 (s1.p:Int),.int .i64 s1.k,.int .i64 s1.f] 60)) w1.heap.size 60 #[.slice a B.length c,.int .i64 (s1.p:Int),.int .i64 s1.k,.int .i64 s1.f]:=zB;have BR:Blk (w1.alloc (.cells #[.slice a B.length c,.int .i64 (s1.p:Int),.int .i64 s1.k,.int .i64 s1.f] 60)) (w.heap.size+1) 60 #[.slice none 0 0,.int .i64 0,.int .i64 0,.int .i64 0]:=B1.alloc _;have hbD:Below w.heap.size w (w1.alloc (.cells #[.slice a B.length c,.int .i64 (s1.p:Int),.int .i64 s1.k,.int .i64 s1.f] 60)):=zA;clear hb B1;go_wp2_with fail;go_loopw [1,10,11] (fun bb v i wr=>∃(k:Nat) (bel:Int) (J:List Int) (st:Rs),k≤N∧i=.int .i64 k∧bb=.int .u64 bel∧0≤bel∧bel≤18446744073709551615∧Hid (J.length=k)∧wr.ownsRow (w1.heap.size+1) 22 1 v J.length (Bu J)∧Hid (∀x∈J,0≤x∧x≤18446744073709551615)∧Blk wr w1.heap.size 60 #[.slice a B.length c,.int .i64 (st.p:Int),.int .i64 st.k,.int .i64 st.f]∧Blk wr (w.heap.size+1) 60 #[.slice none 0 0,.int .i64 0,.int .i64 0,.int .i64 0]∧Below w.heap.size w wr∧w1.heap.size+1≤wr.heap.size∧Hid (st.ok B.length)∧Hid (st.k=0→Rs.DZ B N s1 below []=Rs.DZ B (N-k) st bel J)∧Hid (st.k≠0→Rs.DZ B N s1 below []=(st,[]))) (fun _ _ i _=>N-(intOf i).toNat)
 case atStart=>exact ⟨0,below,[],s1,Ao _,rfl,rfl,hbl.1,hbl.2,hid rfl,⟨rfl,.inl ⟨rfl,rfl⟩⟩,hid zP,BD,BR,hbD,zP,HOK,hid (fun _=>rfl),hid (fun h=>by rw[HNZ.out h];rfl)⟩
 case round=>
  obtain⟨k,bel,J,st,hk,rfl,rfl,hb0,hb1,hJl,hown,hJb,hD,hRs,hbe,hsz,hok,hsp,hsn⟩:=hrel;obtain⟨av,cv,rfl⟩:=AX hown;have hJ9:J.length≤1000:=zA5;obtain⟨x0,x1,x2,x3,f0,f1,f2,f3,l0⟩:=Aq hD;obtain⟨y0,y1,y2,y3,g0,g1,g2,g3,l1⟩:=Aq hRs;have HO:=hid hown;have HD:=hid hD;have HRS:=hid hRs;have HBE:=hid hbe;clear hown hD hRs;rcases Bm k N with hlt2 | hge
  ·have i1:(k:Int)<(N:Int):=by omega
   have d1:decide ((k:Int)<(N:Int))=true:=Ae i1;have d1':decide (k<N)=true:=Ae hlt2;by_cases hk0:st.k=0
   ·have dk:(st.k==(0:Int))=true:=by simp[hk0]
    have hsp1:=hsp.out hk0;have hstep:Rs.DZ B (N-k) st bel J=(if (st.num B).1.k=0 then (if bel≤((st.num B).2:Int) then ((st.num B).1.fail 13 st.p,[]) else Rs.DZ B (N-(k+1)) (st.num B).1 (bel-(st.num B).2-1) (J++[bel-(st.num B).2-1])) else ((st.num B).1,[])):=by
     rw[show N-k=(N-(k+1))+1 by omega];rfl
    rw[hstep] at hsp1;have hVR:=hid (fun (W:World) (hW:Below w.heap.size w W)=>(by have:=CM W a c B (lift HL.out hW) st hok.out hB;unfold CV at this;exact this:Calls Tryz.prog 139 #[.agg #[.slice a B.length c,.int .i64 (st.p:Int),.int .i64 st.k,.int .i64 st.f]] W fun r w'=>r=.returned (.tuple #[.agg #[.slice a B.length c,.int .i64 ((st.num B).1.p:Int),.int .i64 (st.num B).1.k,.int .i64 (st.num B).1.f],.int .u64 ((st.num B).2:Int)])∧Below W.heap.size W w'));have hx:=Rs.Cp (B:=B) (s:=st);have hnok:=Rs.CC (B:=B) hok.out;have HFL:=hid (fun (W:World) (t:Rs)=>(by have:=Bk W a B.length c t 13 (st.p:Int) zD;unfold CV at this;exact this:Calls Tryz.prog 120 #[.agg #[.slice a B.length c,.int .i64 (t.p:Int),.int .i64 t.k,.int .i64 t.f],.int .i64 13,.int .i64 (st.p:Int)] W fun r w'=>r=.returned (.agg #[.slice a B.length c,.int .i64 ((t.fail 13 (st.p:Int)).p:Int),.int .i64 (t.fail 13 (st.p:Int)).k,.int .i64 (t.fail 13 (st.p:Int)).f])∧Below W.heap.size W w'));clear hsp hsn hstep hk0;generalize st.num B=R at*;obtain⟨st1,x⟩:=R;dsimp only at*;have HOK1:=hid hnok;clear hnok;by_cases hk1:st1.k=0
    ·rw[An hk1] at hsp1
     have dk1:(st1.k==(0:Int))=true:=zBr;by_cases hbx:bel≤(x:Int)
     ·rw[An hbx] at hsp1
      have d2:decide (bel≤(x:Int))=true:=Ae hbx;have hfk:(st1.fail 13 (st.p:Int)).k≠0:=Rs.BV zD;have HOK2:=hid (Rs.BH HOK1.out (c:=13) (at_:=(st.p:Int)) zD);have HSP:=hid hsp1;have HFK:=hid hfk;have HF:=hid (fun (W:World)=>HFL.out W st1);clear hsp1 hfk hk1 HFL;generalize st1.fail 13 (st.p:Int)=st2 at*;obtain⟨y,hy,hy0,hy1⟩:∃y,IntKind.u64.wrap (IntKind.u64.wrap (bel-(x:Int))-1)=y∧0≤y∧y≤18446744073709551615:=⟨_,rfl,(CR _).1,(CR _).2⟩;have HY:=hid hy;clear hy;go_wp2_with fail;refine (hVR.out _ HBE.out).mono ?_;rintro r w3 ⟨rfl,hb3⟩;have D3:=HD.out.later hb3;have R3:=HRS.out.later hb3;have HO3:=hid (AR HO.out hb3);have hbe3:=Ag hb3 HBE.out;have hs3:=hb3.size;obtain⟨x0,x1,x2,x3,f0,f1,f2,f3,l0⟩:=Aq D3;clear hb3 y0 y1 y2 y3 g0 g1 g2 g3 l1;have hbe4:Below w.heap.size w (w3.alloc (.cells #[.slice a B.length c,.int .i64 (st1.p:Int),.int .i64 st1.k,.int .i64 st1.f] 60)):=zA;have D4:Blk (w3.alloc (.cells #[.slice a B.length c,.int .i64 (st1.p:Int),.int .i64 st1.k,.int .i64 st1.f] 60)) w1.heap.size 60 #[.slice a B.length c,.int .i64 (st.p:Int),.int .i64 st.k,.int .i64 st.f]:=D3.alloc _;have R4:Blk (w3.alloc (.cells #[.slice a B.length c,.int .i64 (st1.p:Int),.int .i64 st1.k,.int .i64 st1.f] 60)) (w.heap.size+1) 60 #[.slice none 0 0,.int .i64 0,.int .i64 0,.int .i64 0]:=R3.alloc _;have X4:Blk (w3.alloc (.cells #[.slice a B.length c,.int .i64 (st1.p:Int),.int .i64 st1.k,.int .i64 st1.f] 60)) w3.heap.size 60 #[.slice a B.length c,.int .i64 (st1.p:Int),.int .i64 st1.k,.int .i64 st1.f]:=Blk.newAt _ _ _ rfl;go_wp2_with fail;refine (HF.out _).mono ?_;rintro r w6 ⟨rfl,hb6⟩;have D6:=D4.later hb6;have R6:=R4.later hb6;have X6:=X4.later hb6;have HO6':=hid (AR HO3.out (show Below w3.heap.size w3 w6 from ((Below.refl _ _).alloc (Aj _) _).trans (hb6.mono zP)));have hbe6:=Ag hb6 hbe4;have hs6:=hb6.size;simp at hs6;have HS6:Hid (w1.heap.size+1≤w6.heap.size):=hid zD;clear hb6 D4 R4 X4 hbe4 x0 x1 x2 x3 f0 f1 f2 f3 l0;obtain⟨x0,x1,x2,x3,f0,f1,f2,f3,l0⟩:=Aq D6;obtain⟨q0,q1,q2,q3,p0,p1,p2,p3,lq⟩:=Aq X6;go_wp2_with (at_builtin;(try rw[HY.out]);go_loud (refine Ar rfl _ _ _ rfl (w1.heap.size+1) 22 i0 (.int .u64 0) 1 8 DN hi hz0 hz1 hz2 rfl zS (.slice av J.length cv) J.length _ rfl (RW HO6'.out (fun e=>by have:=(HO3.out.lt _ e).2;omega)) (some ⟨w6.heap.size,0,none⟩) 1 1 [.int .u64 (y)] rfl (Bf _ 22 _ rfl zP rfl) zAf zR zD zM ?_;intro v' w5 hown5 hgrow5 hat5;obtain⟨a5,c5,rfl⟩:=AX hown5;have HO5:=hid hown5;have hb5:Below (w1.heap.size+1) w6 w5:=(Below.grown ((((((Below.refl _ _).setCell zH _).setCell zH _).setCell zH _).setCell zH _).alloc zM _) hgrow5 zM (fun g e=>(HO6'.out.lt g e).1));have E5:=(hgrow5.block w3.heap.size zM (fun e=>zBz)).trans (((((X6.set 0 _).set 1 _).set 2 _).set 3 _).alloc _);have E5':Blk w5 w3.heap.size 60 #[.slice a B.length c,.int .i64 (st2.p:Int),.int .i64 st2.k,.int .i64 st2.f]:=E5;have D5:=D6.below hb5 zD;have R5:=R6.below hb5 zD;have hbe5:Below w.heap.size w w5:=hbe6.trans (hb5.mono zD);have hs5:=hb5.size;clear hown5 hgrow5 hat5 x0 x1 x2 x3 f0 f1 f2 f3 l0;obtain⟨x0',x1',x2',x3',f0',f1',f2',f3',l0'⟩:=Aq D5;obtain⟨z0,z1,z2,z3,e0,e1,e2,e3,l5⟩:=Aq E5'))
      have ho5:w5.ownsRow (w1.heap.size+1) 22 1 (.slice a5 (J.length+1) c5) (J++[y]).length (Bu (J++[y])):=by
       have e:Bu (J++[y])=Bu J++[.int .u64 (y)]:=zA7;rw[e,Au];exact HO5.out
      have HO6:=hid ho5;have HB6:Hid (∀t∈J++[y],0≤t∧t≤18446744073709551615):=hid (fun t ht=>by
       rw[Ci,Bw] at ht;rcases ht with ht | rfl
       ·exact hJb.out t ht
       ·omega)
      have HRR:=hid R5;have HDD:=hid D5;have HBE5:=hid hbe5;clear ho5 R5 D5 E5 E5' hbe5;go_roundw
      case rel=>exact ⟨k+1,y,J++[y],st2,zD,zZ,rfl,zD,zD,hid zCl,Fi HO6.out zD,HB6,(((HDD.out.set 0 _).set 1 _).set 2 _).set 3 _,Blk.far (Blk.far (Blk.far (Blk.far HRR.out zH _) zH _) zH _) zH _,(((HBE5.out.setCell zH _).setCell zH _).setCell zH _).setCell zH _,zM,HOK2,hid (fun h=>absurd h HFK.out),hid (fun _=>HSP.out)⟩
      case measure=>simp [intOf];omega
     ·rw[Ak hbx] at hsp1
      have d2:decide (bel≤(x:Int))=false:=Ad hbx;have HSP:=hid hsp1;have HK1:=hid hk1;have w1':0≤bel-(x:Int):=zD;have w2':bel-(x:Int)≤18446744073709551615:=zD;have w3':0≤bel-(x:Int)-1:=zD;have w4':bel-(x:Int)-1≤18446744073709551615:=zD;clear hsp1 hk1 HFL;go_wp2_with fail;refine (hVR.out _ HBE.out).mono ?_;rintro r w3 ⟨rfl,hb3⟩;have D3:=HD.out.later hb3;have R3:=HRS.out.later hb3;have HO3:=hid (AR HO.out hb3);have hbe3:=Ag hb3 HBE.out;have hs3:=hb3.size;obtain⟨x0,x1,x2,x3,f0,f1,f2,f3,l0⟩:=Aq D3;clear hb3 y0 y1 y2 y3 g0 g1 g2 g3 l1;have HS3:Hid (w1.heap.size+1≤w3.heap.size):=hid zD;have X3:Blk (w3.alloc (.cells #[.slice a B.length c,.int .i64 (st1.p:Int),.int .i64 st1.k,.int .i64 st1.f] 60)) w3.heap.size 60 #[.slice a B.length c,.int .i64 (st1.p:Int),.int .i64 st1.k,.int .i64 st1.f]:=Blk.newAt _ _ _ rfl;go_wp2_with (at_builtin;skip;go_loud (refine Ar rfl _ _ _ rfl (w1.heap.size+1) 22 i0 (.int .u64 0) 1 8 DN hi hz0 hz1 hz2 rfl zS (.slice av J.length cv) J.length _ rfl (AR HO3.out zA) (some ⟨w3.heap.size+1,0,none⟩) 1 1 [.int .u64 (bel-(x:Int)-1)] rfl (Bf _ 22 _ rfl zP rfl) zAf zR zD zM ?_;intro v' w5 hown5 hgrow5 hat5;obtain⟨a5,c5,rfl⟩:=AX hown5;have HO5:=hid hown5;have hb5:Below (w1.heap.size+1) w3 w5:=(Below.grown ((by (repeat (first | with_reducible exact Below.refl _ _ | with_reducible assumption | (with_reducible refine Aw ?_ _) | (with_reducible refine Below.setCell ?_ zE _) | (with_reducible refine Below.drew ?_) | (with_reducible refine below_drewN ?_ _) | (refine Ag zI ?_))):Below w3.heap.size w3 _).mono HS3.out) hgrow5 zM (fun g e=>(HO3.out.lt g e).1));have E5:=(hgrow5.block w3.heap.size zM (fun e=>zBz)).trans (X3.alloc _);have E5':Blk w5 w3.heap.size 60 #[.slice a B.length c,.int .i64 (st1.p:Int),.int .i64 st1.k,.int .i64 st1.f]:=E5;have D5:=D3.below hb5 zD;have R5:=R3.below hb5 zD;have hbe5:Below w.heap.size w w5:=hbe3.trans (hb5.mono zD);have hs5:=hb5.size;clear hown5 hgrow5 hat5 x0 x1 x2 x3 f0 f1 f2 f3 l0;obtain⟨x0',x1',x2',x3',f0',f1',f2',f3',l0'⟩:=Aq D5;obtain⟨z0,z1,z2,z3,e0,e1,e2,e3,l5⟩:=Aq E5'))
      have ho5:w5.ownsRow (w1.heap.size+1) 22 1 (.slice a5 (J.length+1) c5) (J++[bel-(x:Int)-1]).length (Bu (J++[bel-(x:Int)-1])):=by
       have e:Bu (J++[bel-(x:Int)-1])=Bu J++[.int .u64 (bel-(x:Int)-1)]:=zA7;rw[e,Au];exact HO5.out
      have HO6:=hid ho5;have HB6:Hid (∀t∈J++[bel-(x:Int)-1],0≤t∧t≤18446744073709551615):=hid (fun t ht=>by
       rw[Ci,Bw] at ht;rcases ht with ht | rfl
       ·exact hJb.out t ht
       ·omega)
      have HRR:=hid R5;have HDD:=hid D5;have HBE5:=hid hbe5;clear ho5 R5 D5 E5 E5' hbe5;go_roundw
      case rel=>exact ⟨k+1,bel-(x:Int)-1,J++[bel-(x:Int)-1],st1,zD,zZ,rfl,zD,zD,hid zCl,Fi HO6.out zD,HB6,(((HDD.out.set 0 _).set 1 _).set 2 _).set 3 _,Blk.far (Blk.far (Blk.far (Blk.far HRR.out zH _) zH _) zH _) zH _,(((HBE5.out.setCell zH _).setCell zH _).setCell zH _).setCell zH _,zM,HOK1,hid (fun _=>HSP.out),hid (fun h=>absurd HK1.out h)⟩
      case measure=>simp [intOf];omega
    ·rw[Ak hk1] at hsp1
     have dk1:(st1.k==(0:Int))=false:=zBr;have HSP:=hid hsp1;have HK1:=hid hk1;clear hsp1 hk1 HFL;obtain⟨y,hy,hy0,hy1⟩:∃y,IntKind.u64.wrap (IntKind.u64.wrap (bel-(x:Int))-1)=y∧0≤y∧y≤18446744073709551615:=⟨_,rfl,(CR _).1,(CR _).2⟩;have HY:=hid hy;clear hy;go_wp2_with fail;refine (hVR.out _ HBE.out).mono ?_;rintro r w3 ⟨rfl,hb3⟩;have D3:=HD.out.later hb3;have R3:=HRS.out.later hb3;have HO3:=hid (AR HO.out hb3);have hbe3:=Ag hb3 HBE.out;have hs3:=hb3.size;obtain⟨x0,x1,x2,x3,f0,f1,f2,f3,l0⟩:=Aq D3;clear hb3 y0 y1 y2 y3 g0 g1 g2 g3 l1;have HS3:Hid (w1.heap.size+1≤w3.heap.size):=hid zD;have X3:Blk (w3.alloc (.cells #[.slice a B.length c,.int .i64 (st1.p:Int),.int .i64 st1.k,.int .i64 st1.f] 60)) w3.heap.size 60 #[.slice a B.length c,.int .i64 (st1.p:Int),.int .i64 st1.k,.int .i64 st1.f]:=Blk.newAt _ _ _ rfl;go_wp2_with (at_builtin;(try rw[HY.out]);go_loud (refine Ar rfl _ _ _ rfl (w1.heap.size+1) 22 i0 (.int .u64 0) 1 8 DN hi hz0 hz1 hz2 rfl zS (.slice av J.length cv) J.length _ rfl (AR HO3.out zA) (some ⟨w3.heap.size+1,0,none⟩) 1 1 [.int .u64 (y)] rfl (Bf _ 22 _ rfl zP rfl) zAf zR zD zM ?_;intro v' w5 hown5 hgrow5 hat5;obtain⟨a5,c5,rfl⟩:=AX hown5;have HO5:=hid hown5;have hb5:Below (w1.heap.size+1) w3 w5:=(Below.grown ((by (repeat (first | with_reducible exact Below.refl _ _ | with_reducible assumption | (with_reducible refine Aw ?_ _) | (with_reducible refine Below.setCell ?_ zE _) | (with_reducible refine Below.drew ?_) | (with_reducible refine below_drewN ?_ _) | (refine Ag zI ?_))):Below w3.heap.size w3 _).mono HS3.out) hgrow5 zM (fun g e=>(HO3.out.lt g e).1));have E5:=(hgrow5.block w3.heap.size zM (fun e=>zBz)).trans (X3.alloc _);have E5':Blk w5 w3.heap.size 60 #[.slice a B.length c,.int .i64 (st1.p:Int),.int .i64 st1.k,.int .i64 st1.f]:=E5;have D5:=D3.below hb5 zD;have R5:=R3.below hb5 zD;have hbe5:Below w.heap.size w w5:=hbe3.trans (hb5.mono zD);have hs5:=hb5.size;clear hown5 hgrow5 hat5 x0 x1 x2 x3 f0 f1 f2 f3 l0;obtain⟨x0',x1',x2',x3',f0',f1',f2',f3',l0'⟩:=Aq D5;obtain⟨z0,z1,z2,z3,e0,e1,e2,e3,l5⟩:=Aq E5'))
     have ho5:w5.ownsRow (w1.heap.size+1) 22 1 (.slice a5 (J.length+1) c5) (J++[y]).length (Bu (J++[y])):=by
      have e:Bu (J++[y])=Bu J++[.int .u64 (y)]:=zA7;rw[e,Au];exact HO5.out
     have HO6:=hid ho5;have HB6:Hid (∀t∈J++[y],0≤t∧t≤18446744073709551615):=hid (fun t ht=>by
      rw[Ci,Bw] at ht;rcases ht with ht | rfl
      ·exact hJb.out t ht
      ·omega)
     have HRR:=hid R5;have HDD:=hid D5;have HBE5:=hid hbe5;clear ho5 R5 D5 E5 E5' hbe5;go_roundw
     case rel=>exact ⟨k+1,y,J++[y],st1,zD,zZ,rfl,zD,zD,hid zCl,Fi HO6.out zD,HB6,(((HDD.out.set 0 _).set 1 _).set 2 _).set 3 _,Blk.far (Blk.far (Blk.far (Blk.far HRR.out zH _) zH _) zH _) zH _,(((HBE5.out.setCell zH _).setCell zH _).setCell zH _).setCell zH _,zM,HOK1,hid (fun h=>absurd h HK1.out),hid (fun _=>HSP.out)⟩
     case measure=>simp [intOf];omega
   ·have dk:(st.k==(0:Int))=false:=by simp[hk0]
    have dn:(st.k !=(0:Int))=true:=zB0;have HSP:=hid (hsn.out hk0);clear hsp hsn hk0;go_wp2;rw[HSP.out];refine Af (v:=.tuple #[.agg #[.slice a B.length c,.int .i64 (st.p:Int),.int .i64 st.k,.int .i64 st.f],.slice none 0 0]) zAx rfl ⟨_,rfl,AZ (xs:=[]) rfl (Aj _) (Ao _) (.inl rfl),zA⟩
  ·obtain rfl:k=N:=by omega
   have d1:decide ((k:Int)<(k:Int))=false:=Ad zD;by_cases hk0:st.k=0
   ·have dn:(st.k !=(0:Int))=false:=by simp[hk0]
    have hsp1:=hsp.out hk0;rw[Dg] at hsp1;have HSP:Hid (Rs.DZ B k s1 below []=(st,J)):=hid hsp1;have HV:=hid (FT hJb.out rfl HO.out);clear hsp hsn hk0 hsp1;go_wp2;rw[HSP.out];refine Af (v:=.tuple #[.agg #[.slice a B.length c,.int .i64 (st.p:Int),.int .i64 st.k,.int .i64 st.f],.slice av J.length cv]) zAx rfl ⟨_,rfl,?_,zA⟩;refine AV.mono (AV.keep HV.out fun q hq=> ?_) fun q hq=>⟨zV,ZD⟩;have:=hq.1;repeat (rw[Ap _ _ _ _ zH])
   ·have dn:(st.k !=(0:Int))=true:=by simp[hk0]
    have HSP:=hid (hsn.out hk0);clear hsp hsn hk0;go_wp2;rw[HSP.out];refine Af (v:=.tuple #[.agg #[.slice a B.length c,.int .i64 (st.p:Int),.int .i64 st.k,.int .i64 st.f],.slice none 0 0]) zAx rfl ⟨_,rfl,AZ (xs:=[]) rfl (Aj _) (Ao _) (.inl rfl),zA⟩
end Go.Proofs.YtlbffbkbkajciaaGreat
namespace Go.Bs
open Go.RowKit
variable{c i n:Nat}{a:Option Addr}{v:Value}
structure IV where
 epoch:Int
 node:Int
 tail:Int
 deriving DecidableEq
structure Cq where
 lo:Int
 hi:Int
 sets:List (List Int)
 deriving DecidableEq
structure EC where
 epoch:Int
 stripes:List Cq
 deriving DecidableEq
structure Msg where
 kind:Int
 epoch:Int
 seq:Int
 pos:Int
 count:Int
 state:Int
 streams:List Int
 links:List BS
 data:List UInt8
 sea:IV
 proj:EC
 deriving DecidableEq
def UE:Rp IV:=rBy (fun s=>(s.epoch,s.node,s.tail)) (Ek (Hb .u64) (Ek (Hb .u64) (Hb .u64)))
def De:Rp (List (List Int)):=rSl 1 AV
def GM:Rp Cq:=rBy (fun s=>(s.lo,s.hi,s.sets)) (Ek (Hb .u64) (Ek (Hb .u64) De))
def A3:Rp (List Cq):=rSl 3 GM
def SZ:Rp EC:=rBy (fun p=>(p.epoch,p.stripes)) (Ek (Hb .u64) A3)
def Lh:Rp Msg:=rBy (fun m=>(m.kind,m.epoch,m.seq,m.pos,m.count,m.state,m.streams,m.links,m.data,m.sea,m.proj))
 (Ek (Hb .i64) (Ek (Hb .u64) (Ek (Hb .u64) (Ek (Hb .u64) (Ek (Hb .i64) (Ek (Hb .i64) (Ek AV (Ek B6 (Ek Ah (Ek UE SZ))))))))))
def inU(x:Int):Prop:=0≤x∧x≤18446744073709551615
def inI(x:Int):Prop:=-9223372036854775808≤x∧x≤9223372036854775807
section
variable {S:Nat→Prop} {w:World} {cs:List Value}
theorem Pm{x:IV}(h:UE.r S w cs x):cs=[.int .u64 x.epoch,.int .u64 x.node,.int .u64 x.tail]∧inU x.epoch∧inU x.node∧inU x.tail:=by
 obtain⟨c1,c2,rfl,⟨rfl,h1⟩,c3,c4,rfl,⟨rfl,h2⟩,rfl,h3⟩:=h;exact⟨rfl,GF h1,GF h2,GF h3⟩
theorem M8{x:Cq}(h:GM.r S w cs x):∃a c,cs=[.int .u64 x.lo,.int .u64 x.hi,.slice a x.sets.length c]∧inU x.lo∧inU x.hi∧De.r S w [.slice a x.sets.length c] x.sets:=by
 obtain⟨c1,c2,rfl,⟨rfl,h1⟩,c3,c4,rfl,⟨rfl,h2⟩,h3⟩:=h;obtain⟨a,c,rfl,h4,_⟩:=At h3;exact⟨a,c,rfl,GF h1,GF h2,h4⟩
theorem Od{x:EC}(h:SZ.r S w cs x):∃a c,cs=[.int .u64 x.epoch,.slice a x.stripes.length c]∧inU x.epoch∧A3.r S w [.slice a x.stripes.length c] x.stripes:=by
 obtain⟨c1,c2,rfl,⟨rfl,h1⟩,h3⟩:=h;obtain⟨a,c,rfl,h4,_⟩:=At h3;exact⟨a,c,rfl,GF h1,h4⟩
def Fj(m:Msg)(a1:Option Addr)(c1:Nat)(a2:Option Addr)(c2:Nat)(a3:Option Addr)(c3:Nat)(a4:Option Addr)(c4:Nat):List Value:=
  [.int .i64 m.kind,.int .u64 m.epoch,.int .u64 m.seq,.int .u64 m.pos,.int .i64 m.count,.int .i64 m.state,.slice a1 m.streams.length c1,.slice a2 m.links.length c2,.slice a3 m.data.length c3,
   .int .u64 m.sea.epoch,.int .u64 m.sea.node,.int .u64 m.sea.tail,.int .u64 m.proj.epoch,.slice a4 m.proj.stripes.length c4]
structure AH(S:Nat→Prop)(w:World)(m:Msg)(a1:Option Addr)(c1:Nat)(a2:Option Addr)(c2:Nat)(a3:Option Addr)(c3:Nat)(a4:Option Addr)(c4:Nat):Prop where
 kind:inI m.kind
 epoch:inU m.epoch
 seq:inU m.seq
 pos:inU m.pos
 count:inI m.count
 state:inI m.state
 sealE:inU m.sea.epoch
 sealN:inU m.sea.node
 sealT:inU m.sea.tail
 projE:inU m.proj.epoch
 streams:AV.r S w [.slice a1 m.streams.length c1] m.streams
 links:B6.r S w [.slice a2 m.links.length c2] m.links
 data:Ah.r S w [.slice a3 m.data.length c3] m.data
 stripes:A3.r S w [.slice a4 m.proj.stripes.length c4] m.proj.stripes
theorem RX{x:Msg}(h:Lh.r S w cs x):∃a1 c1 a2 c2 a3 c3 a4 c4,cs=Fj x a1 c1 a2 c2 a3 c3 a4 c4∧AH S w x a1 c1 a2 c2 a3 c3 a4 c4:=by
 obtain⟨_,_,rfl,⟨rfl,h1⟩,_,_,rfl,⟨rfl,h2⟩,_,_,rfl,⟨rfl,h3⟩,_,_,rfl,⟨rfl,h4⟩,_,_,rfl,⟨rfl,h5⟩,_,_,rfl,⟨rfl,h6⟩,_,_,rfl,h7,_,_,rfl,h8,_,_,rfl,h9,_,_,rfl,h10,h11⟩:=h;obtain⟨a1,c1,rfl,g1,_⟩:=At h7;obtain⟨a2,c2,rfl,g2,_⟩:=At h8;obtain⟨a3,c3,rfl,g3,_⟩:=At h9;obtain⟨rfl,s1,s2,s3⟩:=Pm h10;obtain⟨a4,c4,rfl,p1,g4⟩:=Od h11;exact⟨a1,c1,a2,c2,a3,c3,a4,c4,rfl,bounds_i64 h1,GF h2,GF h3,GF h4,bounds_i64 h5,bounds_i64 h6,s1,s2,s3,p1,g1,g2,g3,g4⟩
theorem Mf{x:Cq}(h0:inU x.lo)(h1:inU x.hi)(h:De.r S w [v] x.sets):GM.r S w [.int .u64 x.lo,.int .u64 x.hi,v] x:=
 ⟨[_],[_,_],rfl,⟨rfl,EF h0⟩,[_],[_],rfl,⟨rfl,EF h1⟩,h⟩
theorem GK{xs:List (List Int)}(h:De.r S w [.slice a n c] xs)(hi:i<xs.length):∃b off,a=some ⟨b,off,none⟩∧S b∧∃a' c',w.cell? ⟨b,off+i,none⟩=some (.slice a' xs[i].length c')∧AV.r S w [.slice a' xs[i].length c'] xs[i]:=by
 obtain⟨b,off,e,hS,cs,_,hc,hA⟩:=Ka h hi;obtain⟨a',c',rfl,h1,_⟩:=At hA;have:=hc 0 _ rfl;rw[Ef,CE] at this;exact⟨b,off,e,hS,a',c',this,h1⟩
theorem Gt{xs:List Cq}(h:A3.r S w [.slice a n c] xs)(hi:i<xs.length):∃b off,a=some ⟨b,off,none⟩∧S b∧∃a' c',w.cell? ⟨b,off+i*3,none⟩=some (.int .u64 xs[i].lo)∧w.cell? ⟨b,off+i*3+1,none⟩=some (.int .u64 xs[i].hi)∧w.cell? ⟨b,off+i*3+2,none⟩=some (.slice a' xs[i].sets.length c')∧
  inU xs[i].lo∧inU xs[i].hi∧De.r S w [.slice a' xs[i].sets.length c'] xs[i].sets:=by
 obtain⟨b,off,e,hS,cs,_,hc,hA⟩:=Ka h hi;obtain⟨a',c',rfl,h1,h2,h3⟩:=M8 hA;exact⟨b,off,e,hS,a',c',hc 0 _ rfl,hc 1 _ rfl,hc 2 _ rfl,h1,h2,h3⟩
end
def Hk(s:IV):Bool:=epR s.epoch&&(decide (s.node≤4294967295)&&decide (s.tail≤4611686018427387904))
def Di(l:List Int):Bool:=decide (1≤l.length∧l.length≤8)&&(Ck l&&decide (l.getLastD 0≤4294967295))
def BM(l:List Int)(others:List (List Int)):Bool:=others.all fun o=>l.all fun n=> !o.contains n
def Ha(L:List (List Int))(i:Nat):Bool:=Di (L.getD i [])&&BM (L.getD i []) (L.take i)
def BG(L:List (List Int)):Nat→Bool
 | 0=>true
 | n+1=>BG L n&&Ha L n
def Dw(s:Cq):Bool:=decide (s.lo<s.hi∧s.hi≤4611686018427387904∧1≤s.sets.length∧s.sets.length≤8)&&BG s.sets s.sets.length
def Gr:Int→List Cq→Bool
 | p,[]=>decide (p=4611686018427387904)
 | p,s::l=>decide (s.lo=p)&&(Dw s&&Gr s.hi l)
def El(p:EC):Bool:=epR p.epoch&&(decide (1≤p.stripes.length∧p.stripes.length≤64)&&Gr 0 p.stripes)
def Dc(k:Int):Nat:=if k<1∨14<k then 0 else [0,1,33,0,1,1,10,0,128,36,0,64,17,128,4].getD k.toNat 0
def AM(k:Int)(p:Nat):Bool:=Dc k/p%2==1
def Dn(k:Int):Int:=if k=9 then 4 else 20
def Ch(k st:Int):Bool:=decide (k=2) || (decide (k=9)&&decide (st=1))
def Cg(h r z:Bool):Bool:=if h then r else z
def P9:IV:=⟨0,0,0⟩
def JL(m:Msg):Bool:=
 decide (1≤m.kind∧m.kind≤14)&&(Cg (AM m.kind 1) (poR m.pos) (decide (m.pos=0))&&(Cg (AM m.kind 2) (decide (1≤m.count∧m.count≤65536)) (decide (m.count=0))&&
 (Cg (AM m.kind 4) (decide (1≤m.state∧m.state≤Dn m.kind)) (decide (m.state=0))&&(Cg (AM m.kind 8) (decide (m.streams.length≤16)&&Ck m.streams) (decide (m.streams.length=0))&&
 (Cg (AM m.kind 16) (Dz m.pos m.links) (decide (m.links.length=0))&&(Cg (AM m.kind 64) (Hk m.sea) (decide (m.sea=P9))&&
 (Cg (AM m.kind 128) (El m.proj) (decide (m.proj.epoch=0)&&decide (m.proj.stripes.length=0))&&(decide (m.data.length=0) || (Ch m.kind m.state&&decide (m.data.length≤1048576))))))))))
theorem Lk(k:Int):Dc k∈[0,1,33,10,128,36,64,17,4]:=by
 unfold Dc;split
 ·simp
 ·rename_i h
  have h':k.toNat=1∨k.toNat=2∨k.toNat=3∨k.toNat=4∨k.toNat=5∨k.toNat=6∨k.toNat=7∨k.toNat=8∨k.toNat=9∨k.toNat=10∨k.toNat=11∨k.toNat=12∨k.toNat=13∨k.toNat=14:=zD;rcases h' with h | h | h | h | h | h | h | h | h | h | h | h | h | h<;>rw [h]<;>decide
theorem Sc(k:Int):AM k 32=(decide (k=2) || decide (k=9)):=by
 unfold AM Dc;split
 ·have h1:decide (k=2)=false:=Ad zD
  have h2:decide (k=9)=false:=Ad zD;rw[h1,h2];decide
 ·rename_i h
  have h':k=1∨k=2∨k=3∨k=4∨k=5∨k=6∨k=7∨k=8∨k=9∨k=10∨k=11∨k=12∨k=13∨k=14:=zD;rcases h' with h | h | h | h | h | h | h | h | h | h | h | h | h | h<;>subst h<;>decide
end Go.Bs
namespace Go.Proofs.YtlbffbkbkajciaaGreat
open Go.RowKit Go.Bs Go.Maps
variable{h:Bool}{B:List UInt8}{xs:List Value}{base g lo n size:Nat}{s:Rs}{e:TypeId}{v:Value}{W w:World}
def tlR(x:Int):Bool:=decide (x≤4611686018427387904)
def Rs.tl(B:List UInt8)(s:Rs):Rs × Nat:=if (s.num B).1.k=0 then (if tlR ((s.num B).2:Int)=true then s.num B else ((s.num B).1.fail 3 s.p,0)) else ((s.num B).1,0)
def Rs.CL(B:List UInt8):Nat→Rs→List Int→Rs × List Int
  | 0,s,out=>(s,out)
  | n+1,s,out=>
    if (s.num B).1.k=0 then
      (if out≠[]∧18446744073709551615-out.getLastD 0≤((s.num B).2:Int) then ((s.num B).1.fail 13 s.p,[])
       else Rs.CL B n (s.num B).1 (out++[if out=[] then ((s.num B).2:Int) else ((s.num B).2:Int)+(out.getLastD 0+1)]))
    else ((s.num B).1,[])
def BE:IV:=⟨0,0,0⟩
def Rs.seal_(B:List UInt8)(s:Rs):Rs × IV:=
 let e:=s.ep B
 let n:=e.1.most B 4294967295
 let t:=n.1.tl B
 if t.1.k=0 then (t.1,⟨(e.2:Int),(n.2:Int),(t.2:Int)⟩) else (t.1,BE)
def Rs.many(B:List UInt8)(s:Rs)(m:Int):Rs × Nat:=(if (s.int B m).2=0 then (s.int B m).1.fail 3 s.p else (s.int B m).1,(s.int B m).2)
def Rs.Eg(B:List UInt8)(s:Rs)(others:List (List Int)):Rs × List Int:=
 let e:=s.many B 8
 let f:=Rs.CL B e.2 e.1 []
 if f.1.k=0 then
  (if 4294967295<f.2.getLastD 0 then (f.1.fail 3 e.1.p,f.2) else if BM f.2 others=true then f else (f.1.fail 13 e.1.p,f.2))
 else (f.1,[])
def Rs.Dt(B:List UInt8):Nat→Rs→List (List Int)→Rs × List (List Int)
 | 0,s,out=>(s,out)
 | n+1,s,out=>if (s.Eg B out).1.k=0 then Rs.Dt B n (s.Eg B out).1 (out++[(s.Eg B out).2]) else ((s.Eg B out).1,[])
def DS:Cq:=⟨0,0,[]⟩
def Rs.span(B:List UInt8)(s:Rs)(lo:Int):Rs × Nat:=
 let s0:=if 4611686018427387904<lo then s.fail 3 s.p else s
 let d:=s0.num B
 (if 4611686018427387904-min lo 4611686018427387904≤(d.2:Int) then d.1.fail 3 s.p else d.1,d.2)
def Rs.Bb(B:List UInt8)(s:Rs)(lo:Int):Rs × Cq:=
 let d:=s.span B lo
 let k:=d.1.many B 8
 let u:=Rs.Dt B k.2 k.1 []
 if u.1.k=0 then (u.1,⟨lo,lo+d.2+1,u.2⟩) else (u.1,DS)
def Rs.CS(B:List UInt8):Nat→Rs→Int→List Cq→Rs × Int × List Cq
 | 0,s,lo,out=>(s,lo,out)
 | n+1,s,lo,out=>if (s.Bb B lo).1.k=0 then Rs.CS B n (s.Bb B lo).1 (s.Bb B lo).2.hi (out++[(s.Bb B lo).2]) else ((s.Bb B lo).1,0,[])
def Bx:EC:=⟨0,[]⟩
def Rs.Du(B:List UInt8)(s:Rs):Rs × EC:=
 let e:=s.ep B
 let i:=e.1.many B 64
 let u:=Rs.CS B i.2 i.1 0 []
 let v:=if u.2.1=4611686018427387904 then u.1 else u.1.fail 3 u.1.p
 if v.k=0 then (v,⟨(e.2:Int),u.2.2⟩) else (v,Bx)
theorem OK(x:Int)(w:World):Calls Tryz.prog 255 #[.int .u64 x] w fun r w'=>r=.returned (.bool (tlR x))∧w=w':=by
 go_enter Tryz.func255,Tryz.ntmps255;go_wp2_with fail;go_ret;exact⟨rfl,rfl⟩
theorem L2(w:World){g:Nat}{B:List UInt8}{a:Option Addr}{s:Rs}(h:AY w g B a s)(hB:B.length≤1000000000):
  Calls Tryz.prog 231 #[.pointer (some ⟨g,0,none⟩),.func (Fn.func 255) #[] #[]] w fun r w'=>r=.returned (.int .u64 ((s.tl B).2:Int))∧AB w g B a (s.tl B).1 w':=by
 have HAT:=hid (Cc w h);have HVR:=hid (CH w h zD);have hxb:=Rs.Gg (B:=B) (s:=s);have HIN:=hid (CY.refl h);unfold Rs.tl;generalize s.num B=R at*;obtain⟨st1,x⟩:=R;dsimp only at*;have HRT:=hid (fun (W:World)=>OK (x:Int) W);have HBAD:=hid hxb;clear h hxb;by_cases hk1:st1.k=0
 ·rw[An hk1]
  by_cases hr:tlR (x:Int)=true
  ·rw[An hr]
   rw[hr] at HRT;have HK:Hid (decide (st1.k=0)=true):=hid (Ae hk1);clear hk1 hr;go_enter G2,Gc;go_wp2_with fail;refine HAT.out.mono ?_;rintro r w2 ⟨rfl,rfl⟩;go_wp2_with fail;refine HVR.out.mono ?_;rintro r w3 ⟨rfl,hst3⟩;have HIN3:=hid (HIN.out.step hst3);clear hst3;go_wp2_with fail;refine (HRT.out w3).mono ?_;rintro r w3' ⟨rfl,rfl⟩;go_wp2_with fail;refine ((by have:=AG w3 HIN3.out.rd;rw[HK.out] at this;exact this:Calls Tryz.prog 44 #[.pointer (some ⟨g,0,none⟩)] w3 fun r w'=>r=.returned (.bool true)∧Below w3.heap.size w3 w')).mono ?_;rintro r w5 ⟨rfl,hb5⟩;have HE:=hid (HIN3.out.to.then hb5);go_wp2;go_ret;exact⟨rfl,HE.out⟩
  ·rw[Ak hr]
   rw[Bool.eq_false_iff.2 hr] at HRT;have hfk:(st1.fail 3 s.p).k≠0:=Rs.BV zD;clear hk1 hr;go_enter G2,Gc;go_wp2_with fail;refine HAT.out.mono ?_;rintro r w2 ⟨rfl,rfl⟩;go_wp2_with fail;refine HVR.out.mono ?_;rintro r w3 ⟨rfl,hst3⟩;have HIN3:=hid (HIN.out.step hst3);clear hst3;go_wp2_with fail;refine (HRT.out w3).mono ?_;rintro r w3' ⟨rfl,rfl⟩;go_wp2_with fail;refine (Br w3 HIN3.out.rd 3 (s.p:Int) zD).mono ?_;rintro r w4 ⟨rfl,hst4⟩;have HIN4:=hid (HIN3.out.step hst4);have hg:=AG w4 HIN4.out.rd;rw[Ad hfk] at hg;have HG:=hid hg;clear hst4 hg hfk;go_wp2_with fail;refine HG.out.mono ?_;rintro r w5 ⟨rfl,hb5⟩;have HE:=hid (HIN4.out.to.then hb5);go_wp2;go_ret;exact⟨rfl,HE.out⟩
 ·rw[Ak hk1]
  have hx0:=HBAD.out hk1;subst hx0;have hfk:st1.k≠0:=hk1;have hfid:st1.fail 3 s.p=st1:=Rs.Bl hk1;rw[show tlR ((0:Nat):Int)=true from zS] at HRT;clear hk1;go_enter G2,Gc;go_wp2_with fail;refine HAT.out.mono ?_;rintro r w2 ⟨rfl,rfl⟩;go_wp2_with fail;refine HVR.out.mono ?_;rintro r w3 ⟨rfl,hst3⟩;have HIN3:=hid (HIN.out.step hst3);clear hst3;go_wp2_with fail;refine (HRT.out w3).mono ?_;rintro r w3' ⟨rfl,rfl⟩;go_wp2_with fail;refine ((by have:=AG w3 HIN3.out.rd;rw[Ad hfk] at this;exact this:Calls Tryz.prog 44 #[.pointer (some ⟨g,0,none⟩)] w3 fun r w'=>r=.returned (.bool false)∧Below w3.heap.size w3 w')).mono ?_;rintro r w5 ⟨rfl,hb5⟩;have HE:=hid (HIN3.out.to.then hb5);clear hfk hfid;go_wp2;go_ret;exact⟨rfl,HE.out⟩
theorem LA(w:World){g:Nat}{B:List UInt8}{a:Option Addr}{s:Rs}(h:AY w g B a s)(hB:B.length≤1000000000):
  Calls Tryz.prog 235 #[.pointer (some ⟨g,0,none⟩)] w fun r w'=>r=.returned (.int .u64 ((s.tl B).2:Int))∧AB w g B a (s.tl B).1 w':=by
 have HR:=hid (L2 w h hB);generalize s.tl B=R at*;clear h;go_enter Tryz.func235,Tryz.ntmps235;go_wp2_with fail;refine HR.out.mono ?_;rintro r w1 ⟨rfl,hst⟩;have HST:=hid hst;clear hst;go_wp2;go_ret;exact⟨rfl,HST.out⟩
theorem SW(w:World)(a:Option Addr)(c:Nat)(B:List UInt8)(hl:Ah.r (·<w.heap.size) w [.slice a B.length c] B)(s:Rs)(hs:s.ok B.length)(hB:B.length≤1000000000000):
  Calls Tryz.prog 121 #[CV a B.length c s,.int .i64 3] w fun r w'=>r=.returned (.tuple #[CV a B.length c (s.tl B).1,.int .u64 ((s.tl B).2:Int)])∧Below w.heap.size w w':=by
 have hR:=hid (fun (W:World) (hW:Below w.heap.size w W)=>CM W a c B (lift hl hW) s hs hB);have hF:=hid (fun (W:World) (t:Rs)=>Bk W a B.length c t 3 s.p zD);unfold Rs.tl;generalize s.num B=N at*;obtain⟨s1,x⟩:=N;dsimp only at*;clear hl hs;unfold CV at*;have hx0:(0:Int)≤(x:Int):=zD;by_cases hk:s1.k=0
 ·rw[An hk]
  have d0:(s1.k !=(0:Int))=false:=zAs;clear hk;by_cases he:tlR (x:Int)=true
  ·rw[An he]
   have d1:decide ((4611686018427387904:Int)<(x:Int))=false:=by simp only[tlR,AN] at he;exact Ad zD
   clear he hF;go_enter G4,Gd;go_wp2_with fail;refine (hR.out _ zA).mono ?_;rintro r w1 ⟨rfl,hb⟩;have B0:Blk w1 w.heap.size 60 #[.slice a B.length c,.int .i64 (s.p:Int),.int .i64 s.k,.int .i64 s.f]:=Blk.later zB hb;have B1:Blk w1 (w.heap.size+1) 60 #[.slice none 0 0,.int .i64 0,.int .i64 0,.int .i64 0]:=Blk.later zB hb;have hbw:Below w.heap.size w w1:=zA;obtain⟨x0,x1,x2,x3,f0,f1,f2,f3,l0⟩:=Aq B0;obtain⟨y0,y1,y2,y3,g0,g1,g2,g3,l1⟩:=Aq B1;clear hb;go_wp2;refine Af (v:=.tuple #[.agg #[.slice a B.length c,.int .i64 (s1.p:Int),.int .i64 s1.k,.int .i64 s1.f],.int .u64 (x:Int)]) ZA rfl ⟨rfl,zA⟩
  ·rw[Ak he]
   have d1:decide ((4611686018427387904:Int)<(x:Int))=true:=by simp only[tlR,AN] at he;exact Ae zD
   have HF:=hid (fun (W:World)=>hF.out W s1);clear he hF;dsimp only;generalize s1.fail 3 s.p=s2 at*;go_enter G4,Gd;go_wp2_with fail;refine (hR.out _ zA).mono ?_;rintro r w1 ⟨rfl,hb⟩;have B0:Blk w1 w.heap.size 60 #[.slice a B.length c,.int .i64 (s.p:Int),.int .i64 s.k,.int .i64 s.f]:=Blk.later zB hb;have B1:Blk w1 (w.heap.size+1) 60 #[.slice none 0 0,.int .i64 0,.int .i64 0,.int .i64 0]:=Blk.later zB hb;have hbw:Below w.heap.size w w1:=zA;obtain⟨x0,x1,x2,x3,f0,f1,f2,f3,l0⟩:=Aq B0;obtain⟨y0,y1,y2,y3,g0,g1,g2,g3,l1⟩:=Aq B1;clear hb;go_wp2_with fail;refine (HF.out _).mono ?_;rintro r w3 ⟨rfl,hb3⟩;have B3:Blk w3 (w.heap.size+1) 60 #[.slice none 0 0,.int .i64 0,.int .i64 0,.int .i64 0]:=Blk.later (B1.alloc _) hb3;have hbw3:Below w.heap.size w w3:=zA;obtain⟨y0,y1,y2,y3,g0,g1,g2,g3,l1⟩:=Aq B3;clear hb3;go_wp2;refine Af (v:=.tuple #[.agg #[.slice a B.length c,.int .i64 (s2.p:Int),.int .i64 s2.k,.int .i64 s2.f],.int .u64 0]) ZA rfl ⟨rfl,zA⟩
 ·rw[Ak hk]
  have d0:(s1.k !=(0:Int))=true:=zAs;clear hk hF;dsimp only;go_enter G4,Gd;go_wp2_with fail;refine (hR.out _ zA).mono ?_;rintro r w1 ⟨rfl,hb⟩;have B0:Blk w1 w.heap.size 60 #[.slice a B.length c,.int .i64 (s.p:Int),.int .i64 s.k,.int .i64 s.f]:=Blk.later zB hb;have B1:Blk w1 (w.heap.size+1) 60 #[.slice none 0 0,.int .i64 0,.int .i64 0,.int .i64 0]:=Blk.later zB hb;have hbw:Below w.heap.size w w1:=zA;obtain⟨x0,x1,x2,x3,f0,f1,f2,f3,l0⟩:=Aq B0;obtain⟨y0,y1,y2,y3,g0,g1,g2,g3,l1⟩:=Aq B1;clear hb;go_wp2;refine Af (v:=.tuple #[.agg #[.slice a B.length c,.int .i64 (s1.p:Int),.int .i64 s1.k,.int .i64 s1.f],.int .u64 0]) ZA rfl ⟨rfl,zA⟩
def SB:Option Int→List Int→List Int
 | _,[]=>[]
 | p,x::l=>(match p with | none=>x | some q=>x-q-1)::SB (some x) l
def Va(l:List Int):List UInt8:=Je (SB none l)
def K6(l:List Int):List UInt8:=A5 l.length++Va l
def UD(l:List (List Int)):List UInt8:=(l.map K6).flatten
def KK(s:Cq):List UInt8:=A5 (s.hi-s.lo-1).toNat++A5 s.sets.length++UD s.sets
def NO(l:List Cq):List UInt8:=(l.map KK).flatten
def Lj(p:EC):List UInt8:=A5 p.epoch.toNat++A5 p.stripes.length++NO p.stripes
def K8(s:IV):List UInt8:=A5 s.epoch.toNat++A5 s.node.toNat++A5 s.tail.toNat
def BW(h:Bool)(b:List UInt8):List UInt8:=if h then b else []
def IK(m:Msg):List UInt8:=
 BW (AM m.kind 1) (A5 m.pos.toNat)++BW (AM m.kind 2) (A5 m.count.toNat)++BW (AM m.kind 4) [UInt8.ofNat m.state.toNat]++
 BW (AM m.kind 8) (K6 m.streams)++BW (AM m.kind 16) (GR m.pos m.links)++BW (Ch m.kind m.state) (CU m.data)++
 BW (AM m.kind 64) (K8 m.sea)++BW (AM m.kind 128) (Lj m.proj)
theorem NK:∀(p:Option Int) (l:List Int),(SB p l).length=l.length
 | _,[]=>rfl
 | p,x::l=>by simp only[SB,Bo,NK _ l]
theorem SC(l:List Int):(Va l).length≤10*l.length:=by
 have:=Mx (SB none l);rw[NK] at this;exact this
theorem NW(l:List Int):(K6 l).length≤10+10*l.length:=by
 unfold K6;have:=SC l;have:=(Bj l.length).1;rw[Au];omega
theorem MJ{α:Type}(f:α→List UInt8)(l:List α)(b:Nat)(h:∀x∈l,(f x).length≤b):(l.map f).flatten.length≤b*l.length:=by
 induction l with
 | nil=>simp
 | cons x l ih=>
  have h1:=h x zP;have h2:=ih fun y hy=>h y (by simp[hy]);simp only[List.map_cons,List.flatten_cons,Au,Bo,Nat.mul_add,Ef];omega
theorem NV(L:List (List Int)):∀n i,BG L n=true→i<n→Ha L i=true
 | 0,i,_,h=>by omega
 | n+1,i,h,hi=>by
  simp only[BG,AL] at h;by_cases hn:i=n
  ·rw[hn];exact h.2
  ·exact NV L n i h.1 zD
theorem GY{α:Type}(l:List α)(i:Nat)(d:α)(h:i<l.length):l.getD i d=l[i]:=by
 rw[List.getD_eq_getElem?_getD,AQ h];rfl
theorem Rz{L:List (List Int)}(h:BG L L.length=true)(i:Nat)(hi:i<L.length):Di L[i]=true:=by
 have:=NV L _ i h hi;simp only[Ha,AL,GY L i [] hi] at this;exact this.1
theorem Pe{s:Cq}(h:Dw s=true):(KK s).length≤740:=by
 simp only[Dw,AL,AN] at h;have h1:=(Bj (s.hi-s.lo-1).toNat).1;have h2:=(Bj s.sets.length).1;have h3:=MJ K6 s.sets 90 fun x hx=>by
  obtain⟨i,hi,rfl⟩:=List.getElem_of_mem hx;have:=Rz h.2 i hi;simp only[Di,AL,AN] at this;have:=NW s.sets[i];omega
 unfold KK UD;simp only[Au];omega
theorem MR:∀(l:List Cq) (p:Int),Gr p l=true→∀s∈l,Dw s=true
 | [],p,_,s,hs=>by simp at hs
 | x::l,p,h,s,hs=>by
  simp only[Gr,AL] at h;rcases List.mem_cons.1 hs with rfl | hs
  ·exact h.2.1
  ·exact MR l _ h.2.2 s hs
theorem S8{p:EC}(h:El p=true):(Lj p).length≤47380:=by
 simp only[El,AL,AN] at h;have h1:=(Bj p.epoch.toNat).1;have h2:=(Bj p.stripes.length).1;have h3:=MJ KK p.stripes 740 fun x hx=>Pe (MR _ _ h.2.2 x hx);unfold Lj NO;simp only[Au];omega
theorem SQ(s:IV):(K8 s).length≤30:=by
 have h1:=(Bj s.epoch.toNat).1;have h2:=(Bj s.node.toNat).1;have h3:=(Bj s.tail.toNat).1;unfold K8;simp only[Au];omega
theorem Fg(h:Bool)(b:List UInt8)(n:Nat)(hb:h=true→b.length≤n):(BW h b).length≤n:=by
 cases h
 ·exact Ao _
 ·exact hb rfl
theorem Om(pos:Int)(l:List BS)(hR:Dz pos l=true):(GR pos l).length≤830:=by
 have h1:=Nq pos l hR;simp only[Dz,AL,AN] at hR;have h2:=(Bj l.length).1;unfold GR;rw[Au];omega
theorem DP{r z:Bool}(hw:Cg h r z=true)(hh:h=true):r=true:=by subst hh;exact hw
structure Vw(m:Msg):Prop where
 kind:1≤m.kind∧m.kind≤14
 pos:AM m.kind 1=true→poR m.pos=true
 count:AM m.kind 2=true→1≤m.count∧m.count≤65536
 state:AM m.kind 4=true→1≤m.state∧m.state≤Dn m.kind
 streams:AM m.kind 8=true→m.streams.length≤16∧Ck m.streams=true
 links:AM m.kind 16=true→Dz m.pos m.links=true
 seal_:AM m.kind 64=true→Hk m.sea=true
 proj:AM m.kind 128=true→El m.proj=true
 data:m.data.length≤1048576
theorem IJ{m:Msg}(h:JL m=true):Vw m:=by
 simp only[JL,AL,AN] at h;obtain⟨h1,h2,h3,h4,h5,h6,h7,h8,h9⟩:=h;refine⟨h1,fun e=>DP h2 e,fun e=>Cu (DP h3 e),fun e=>Cu (DP h4 e),fun e=> ?_,fun e=>DP h6 e,fun e=>DP h7 e,fun e=>DP h8 e,?_⟩
 ·have:=DP h5 e
  simp only[AL,AN] at this;exact this
 ·simp only[C4,AL,AN] at h9
  omega
theorem Lm{m:Msg}(h:JL m=true):(IK m).length≤49000+m.data.length:=by
 have H:=IJ h;have h1:=Fg (AM m.kind 1) (A5 m.pos.toNat) 10 fun _=>(Bj _).1;have h2:=Fg (AM m.kind 2) (A5 m.count.toNat) 10 fun _=>(Bj _).1;have h3:=Fg (AM m.kind 4) [UInt8.ofNat m.state.toNat] 1 fun _=>by simp
 have h4:=Fg (AM m.kind 8) (K6 m.streams) 170 fun e=>by have:=NW m.streams;have:=(H.streams e).1;omega
 have h5:=Fg (AM m.kind 16) (GR m.pos m.links) 830 fun e=>Om _ _ (H.links e);have h6:=Fg (Ch m.kind m.state) (CU m.data) (11+m.data.length) fun e=>by have:=LK m.data;have:=(Bj m.data.length).1;omega
 have h7:=Fg (AM m.kind 64) (K8 m.sea) 30 fun e=>SQ _;have h8:=Fg (AM m.kind 128) (Lj m.proj) 47380 fun e=>S8 (H.proj e);unfold IK;simp only[Au];omega
theorem Ma(l:List Int)(a:Option Addr)(n c:Nat)(w:World)(hl:AV.r (·<w.heap.size) w [.slice a n c] l):
  Calls Tryz.prog 149 #[.slice a n c] w fun r w'=>r=.returned (.bool (Ck l))∧Below w.heap.size w w':=by
 obtain⟨rfl,hm,_,_⟩:=AU hl;have HL:=hid hl;clear hl;go_enter Tryz.func149,Tryz.ntmps149;go_wp2;go_loopw [3] (fun i wr=>∃m:Nat,(m≤l.length∧(m=0∨m<l.length))∧i=.int .i64 ((m:Int)+1)∧Hid (Ck l=Ea l (m+1))∧Below w.heap.size w wr) (fun i _=>l.length+1-(intOf i).toNat)
 case atStart=>exact ⟨0,⟨Ao _,.inl rfl⟩,rfl,hid (Kd l).symm,Below.refl _ _⟩
 case round=>
  obtain⟨m,hk,rfl,hf,hb⟩:=hrel;by_cases hlt:m+1<l.length
  ·obtain⟨b,o,hA,hbb,x0,hx0,hx1⟩:=Ep (lift HL.out hb) hlt
   obtain⟨b',o',hA',hbb',y0,hy0,hy1⟩:=Ep (lift HL.out hb) (show m<l.length by omega);subst hA;simp only[Cv,Ic] at hA';obtain⟨rfl,rfl,_⟩:=hA';have hst:=hid (I8 l m hlt);have k1:(0:Int)≤(m:Int)+1-1:=zD;have k2:(m:Int)+1<(l.length:Int):=zD;have k3:(m:Int)<(l.length:Int):=zD;have X0:=fun s:AS wr=>s.cell x0;have Y0:=fun s:AS wr=>s.cell y0;clear x0 y0;generalize l[m+1]=x at*;generalize l[m]=y at*;by_cases hge:x≤y
   ·have d1:decide (x≤y)=true:=Ae hge
    have hff:Hid (Ck l=false):=hid (by rw[hf.out,hst.out,Ad (by omega)];rfl);clear hge;go_wp2_with fail;refine AI zL zL ?_;repeat (go_big_quiet_step (fail))
    refine A8 ?_;rintro W5 ⟨⟨W5',hb5⟩,rfl⟩;go_wp2;go_ret;exact⟨zQ,Ag hb5 hb⟩
   ·have d1:decide (x≤y)=false:=Ad hge
    have hst':Hid (Ea l (m+1)=Ea l (m+2)):=hid (by rw[hst.out,Ae (by omega)];rfl);clear hge;go_wp2_with fail;refine AI zL zL ?_;repeat (go_big_quiet_step (fail))
    refine A8 ?_;rintro W5 ⟨⟨W5',hb5⟩,rfl⟩;go_wp2;go_roundw
    case rel=>exact ⟨m+1,⟨zD,zD⟩,zZ,hid zBb,Ag hb5 hb⟩
    case measure=>(simp[intOf];try omega)
  ·have k2:¬((m:Int)+1<(l.length:Int)):=by omega
   have d2:decide ((m:Int)+1<(l.length:Int))=false:=Ad k2;have hff:Hid (Ck l=true):=hid (by
    rcases Dr l.length with h0 | h0
    ·rw[AP h0];rfl
    ·rw[hf.out,show m+1=l.length by omega];exact Ke l)
   go_wp2;go_ret;exact⟨zQ,hb⟩
theorem Pk(s:IV)(h0:inU s.epoch)(w:World):Calls Tryz.prog 86 #[.agg #[.int .u64 s.epoch,.int .u64 s.node,.int .u64 s.tail]] w fun r w'=>r=.returned (.bool (Hk s))∧Below w.heap.size w w':=by
 have HE:=hid (fun (W:World)=>Fm s.epoch W);have hsr:Hk s=(epR s.epoch&&(decide (s.node≤4294967295)&&decide (s.tail≤4611686018427387904))):=rfl;obtain⟨e,n,t⟩:=s;dsimp only at*;generalize epR e=E at*;have HS:=hid hsr;generalize Hk ⟨e,n,t⟩=ss at*;clear hsr h0;cases E
 ·have hf:Hid (ss=false):=hid (by rw[HS.out];rfl)
  go_enter Tryz.func86,Tryz.ntmps86;go_wp2_with fail;refine (HE.out _).mono ?_;rintro r w1 ⟨rfl,rfl⟩;go_wp2_with fail;go_ret;exact⟨zCf,zC⟩
 ·by_cases hn:n≤4294967295
  ·have hf:Hid (ss=decide (t≤4611686018427387904)):=hid (by rw[HS.out,Ae hn];rfl)
   have d1:decide (n≤4294967295)=true:=Ae hn;clear hn;go_enter Tryz.func86,Tryz.ntmps86;go_wp2_with fail;refine (HE.out _).mono ?_;rintro r w1 ⟨rfl,rfl⟩;go_wp2_with fail;go_ret;exact⟨zCf,zC⟩
  ·have hf:Hid (ss=false):=hid (by rw[HS.out,Ad hn];rfl)
   have d1:decide (n≤4294967295)=false:=Ad hn;clear hn;go_enter Tryz.func86,Tryz.ntmps86;go_wp2_with fail;refine (HE.out _).mono ?_;rintro r w1 ⟨rfl,rfl⟩;go_wp2_with fail;go_ret;exact⟨zCf,zC⟩
theorem MF(l:List Int)(x:Int)(k:Nat)(h:k<l.length):(l.drop k).contains x=(decide (l[k]=x) || (l.drop (k+1)).contains x):=by
 rw[AO h,List.contains_cons];congr 1
 rw[ED,beq_iff_eq,decide_eq_true_iff];exact eq_comm
theorem RJ(l:List Int)(x:Int)(a:Option Addr)(n c:Nat)(w:World)(hl:AV.r (·<w.heap.size) w [.slice a n c] l):
  Calls Tryz.prog 251 #[.slice a n c,.int .u64 x] w fun r w'=>r=.returned (.bool (l.contains x))∧Below w.heap.size w w':=by
 obtain⟨rfl,hm,_,_⟩:=AU hl;have HL:=hid hl;clear hl;go_enter Tryz.func251,Tryz.ntmps251;go_wp2;go_loopw [5] (fun i wr=>∃k:Nat,k≤l.length∧i=.int .i64 k∧Hid (l.contains x=(l.drop k).contains x)∧Below w.heap.size w wr) (fun i _=>l.length-(intOf i).toNat)
 case atStart=>exact ⟨0,Ao _,rfl,hid rfl,Below.refl _ _⟩
 case round=>
  obtain⟨k,hk,rfl,hf,hb⟩:=hrel;by_cases hlt:k<l.length
  ·obtain⟨b,o,hA,hbb,x0,hx0,hx1⟩:=Ep (lift HL.out hb) hlt
   subst hA;have hst:=hid (MF l x k hlt);have i1:(k:Int)<(l.length:Int):=zD;have d1:decide ((k:Int)<(l.length:Int))=true:=Ae i1;generalize l[k]=y at*;by_cases he:y=x
   ·have d2:(y==x)=true:=beq_iff_eq.2 he
    have hff:Hid (l.contains x=true):=hid (by rw[hf.out,hst.out,Ae he];rfl);clear he;go_wp2_with fail;go_ret;exact⟨zQ,hb⟩
   ·have d2:(y==x)=false:=beq_eq_false_iff_ne.2 he
    have hff:Hid (l.contains x=(l.drop (k+1)).contains x):=hid (by rw[hf.out,hst.out,Ad he];rfl);clear he;go_wp2_with fail;go_roundw
    case rel=>exact ⟨k+1,zD,zZ,hff,hb⟩
    case measure=>(simp[intOf];try omega)
  ·obtain rfl:k=l.length:=by omega
   have d1:decide ((l.length:Int)<(l.length:Int))=false:=Ad zD;have hff:Hid (l.contains x=false):=hid zAg;go_wp2_with fail;go_ret;exact⟨zQ,hb⟩
theorem Nb(l:List Int)(x:Int)(a:Option Addr)(n c:Nat)(w:World)(hl:AV.r (·<w.heap.size) w [.slice a n c] l):
  Calls Tryz.prog 269 #[.slice a n c,.int .u64 x] w fun r w'=>(∃j:Int,r=.returned (.int .i64 j)∧decide (0≤j)=l.contains x)∧Below w.heap.size w w':=by
 obtain⟨rfl,hm,_,_⟩:=AU hl;have HL:=hid hl;clear hl;go_enter Tryz.func269,Tryz.ntmps269;go_wp2;go_loopw [8] (fun i wr=>∃k:Nat,k≤l.length∧i=.int .i64 k∧Hid (l.contains x=(l.drop k).contains x)∧Below w.heap.size w wr) (fun i _=>l.length-(intOf i).toNat)
 case atStart=>exact ⟨0,Ao _,rfl,hid rfl,Below.refl _ _⟩
 case round=>
  obtain⟨k,hk,rfl,hf,hb⟩:=hrel;by_cases hlt:k<l.length
  ·obtain⟨b,o,hA,hbb,x0,hx0,hx1⟩:=Ep (lift HL.out hb) hlt
   subst hA;have hst:=hid (MF l x k hlt);have i1:(k:Int)<(l.length:Int):=zD;have d1:decide ((k:Int)<(l.length:Int))=true:=Ae i1;generalize l[k]=y at*;by_cases he:y=x
   ·have d2:(x==y)=true:=beq_iff_eq.2 he.symm
    have hff:Hid (l.contains x=true):=hid (by rw[hf.out,hst.out,Ae he];rfl);clear he;go_wp2_with fail;go_ret;exact⟨⟨(k:Int),rfl,by rw[hff.out];exact Ae (by omega)⟩,hb⟩
   ·have d2:(x==y)=false:=beq_eq_false_iff_ne.2 (fun e=>he e.symm)
    have hff:Hid (l.contains x=(l.drop (k+1)).contains x):=hid (by rw[hf.out,hst.out,Ad he];rfl);clear he;go_wp2_with fail;go_roundw
    case rel=>exact ⟨k+1,zD,zZ,hff,hb⟩
    case measure=>(simp[intOf];try omega)
  ·obtain rfl:k=l.length:=by omega
   have d1:decide ((l.length:Int)<(l.length:Int))=false:=Ad zD;have hff:Hid (l.contains x=false):=hid zAg;go_wp2_with fail;go_ret;exact⟨⟨-1,rfl,zQ⟩,hb⟩
theorem Kw(l:List Int)(x:Int)(a:Option Addr)(n c:Nat)(w:World)(hl:AV.r (·<w.heap.size) w [.slice a n c] l):
  Calls Tryz.prog 250 #[.slice a n c,.int .u64 x] w fun r w'=>r=.returned (.bool (l.contains x))∧Below w.heap.size w w':=by
 have HI:=hid (Nb l x a n c w hl);obtain⟨rfl,hm,_,_⟩:=AU hl;generalize l.contains x=hh at*;clear hl;go_enter Tryz.func250,Tryz.ntmps250;go_wp2_with fail;refine HI.out.mono ?_;rintro r w1 ⟨⟨j,rfl,hj⟩,hb1⟩;have HJ:=hid hj;go_wp2_with fail;go_ret;exact⟨by rw[←HJ.out];rfl,hb1⟩
theorem O2(l:List Int)(f:Int→Bool)(k:Nat)(h:k<l.length):(l.drop k).all f=(f l[k]&&(l.drop (k+1)).all f):=by
 rw[AO h,List.all_cons]
theorem LO(l:List Int)(o:List (List Int))(k:Nat)(h:k<o.length):BM l (o.drop k)=((l.all fun n=> !o[k].contains n)&&BM l (o.drop (k+1))):=by
 unfold BM;rw[AO h,List.all_cons]
theorem Dv(l:List Int)(O:List (List Int))(a:Option Addr)(n c:Nat)(a':Option Addr)(n' c':Nat)(w:World)(hl:AV.r (·<w.heap.size) w [.slice a n c] l)(ho:De.r (·<w.heap.size) w [.slice a' n' c'] O):
  Calls Tryz.prog 219 #[.slice a n c,.slice a' n' c'] w fun r w'=>r=.returned (.bool (BM l O))∧Below w.heap.size w w':=by
 obtain⟨rfl,hm,_,_⟩:=AU hl;obtain⟨rfl,hm',_,_⟩:=AU ho;have HL:=hid hl;have HO:=hid ho;clear hl ho;go_enter Tryz.func219,Tryz.ntmps219;go_wp2_with fail;go_loopw [11] (fun i wr=>∃k:Nat,k≤O.length∧i=.int .i64 k∧Hid (BM l O=BM l (O.drop k))∧Below w.heap.size w wr) (fun i _=>O.length-(intOf i).toNat)
 case atStart=>exact ⟨0,Ao _,rfl,hid rfl,Below.refl _ _⟩
 case round=>
  obtain⟨k,hk,rfl,hf,hb⟩:=hrel;by_cases hlt:k<O.length
  ·obtain⟨b,o,hA,hbb,ak,ck,x0,xl⟩:=GK (lift HO.out hb) hlt
   subst hA;have hst:=hid (LO l O k hlt);have HX:=hid xl;have HB:=hid hb;have i1:(k:Int)<(O.length:Int):=zD;have d1:decide ((k:Int)<(O.length:Int))=true:=Ae i1;generalize O[k]=X at*;clear xl hb;obtain⟨wo,hwo⟩:∃wo:World,wo=wr:=⟨_,rfl⟩;subst hwo;go_wp2_with fail;go_loopw [17] (fun i wr=>∃j:Nat,j≤l.length∧i=.int .i64 j∧Hid ((l.all fun n=> !X.contains n)=(l.drop j).all fun n=> !X.contains n)∧Below wo.heap.size wo wr) (fun i _=>l.length-(intOf i).toNat)
   case atStart=>exact ⟨0,Ao _,rfl,hid rfl,Below.refl _ _⟩
   case round=>
    obtain⟨j,hj,rfl,hg,hbj⟩:=hrel;have hbw:=HB.out.trans (hbj.mono HB.out.size);have HBW:=hid hbw;by_cases hjl:j<l.length
    ·obtain⟨b2,o2,hA2,hbb2,y0,hy0,hy1⟩:=Ep (lift HL.out hbw) hjl
     subst hA2;have hsj:=hid (O2 l (fun n=> !X.contains n) j hjl);have HCT:=hid (fun y=>Kw X y ak _ ck wr (lift HX.out hbj));have j1:(j:Int)<(l.length:Int):=zD;have e1:decide ((j:Int)<(l.length:Int))=true:=Ae j1;generalize l[j]=y at*;have hct:=HCT.out y;by_cases hc:X.contains y=true
     ·rw[hc] at hct
      have HC:=hid hct;have hff:Hid (BM l O=false):=hid zBs;clear hc hct hbw hbj HCT;go_wp2_with fail;refine HC.out.mono ?_;rintro r w3 ⟨rfl,hb3⟩;have hbe:=Ag hb3 HBW.out;go_wp2_with fail;go_ret;exact⟨zQ,hbe⟩
     ·have hc':=eq_false_of_ne_true hc
      rw[hc'] at hct;have HC:=hid hct;have hgg:Hid ((l.all fun n=> !X.contains n)=(l.drop (j+1)).all fun n=> !X.contains n):=hid zCd;have HBJ:=hid hbj;clear hc hc' hct hbw hbj HCT;go_wp2_with fail;refine HC.out.mono ?_;rintro r w3 ⟨rfl,hb3⟩;have hbe:=Ag hb3 HBJ.out;go_wp2_with fail;go_roundw
      case rel=>exact ⟨j+1,zD,zZ,hgg,hbe⟩
      case measure=>(simp[intOf];try omega)
    ·obtain rfl:j=l.length:=by omega
     have e1:decide ((l.length:Int)<(l.length:Int))=false:=Ad zD;have hff:Hid (BM l O=BM l (O.drop (k+1))):=hid zC3;clear hbj hbw;go_wp2_with fail;go_roundw
     case rel=>exact ⟨k+1,zD,zZ,hff,HBW.out⟩
     case measure=>(simp[intOf];try omega)
  ·obtain rfl:k=O.length:=by omega
   have d1:decide ((O.length:Int)<(O.length:Int))=false:=Ad zD;have hff:Hid (BM l O=true):=hid zAg;go_wp2_with fail;go_ret;exact⟨zQ,hb⟩
theorem Jo(l:List Int)(h:1≤l.length):l.getLastD 0=l[l.length-1]:=by
 rw[List.getLastD_eq_getLast?,List.getLast?_eq_getElem?,AQ zD];rfl
theorem EG(l:List Int)(a:Option Addr)(n c:Nat)(w:World)(hl:AV.r (·<w.heap.size) w [.slice a n c] l):
  Calls Tryz.prog 218 #[.slice a n c] w fun r w'=>r=.returned (.bool (Di l))∧Below w.heap.size w w':=by
 obtain⟨rfl,hm,_,_⟩:=AU hl;have HR:=Ma l a _ c w hl;have hnr:Di l=(decide (1≤l.length∧l.length≤8)&&(Ck l&&decide (l.getLastD 0≤4294967295))):=rfl;by_cases h1:1≤l.length
 ·have d1:decide ((1:Int)≤(l.length:Int))=true:=Ae zD
  by_cases h2:l.length≤8
  ·have d2:decide ((l.length:Int)≤8)=true:=Ae zD
   rw[Ae (⟨h1,h2⟩:1≤l.length∧l.length≤8),Cw,Jo l h1] at hnr;obtain⟨b,o,hA,hbb,x0,hx0,hx1⟩:=Ep hl (i:=l.length-1) zD;subst hA;obtain⟨m,hm⟩:∃m,l.length=m+1:=⟨l.length-1,zD⟩;simp only[hm,Nat.add_sub_cancel] at hnr x0 hx0 hx1 HR d1 d2 ⊢;have HNR:=hid hnr;generalize l[m]'zD=y at*;generalize Ck l=R at*;generalize Di l=NR at*;have q1:(0:Int)≤(m:Int)+1-1:=zD;have HRR:=hid HR;have hmm:m≤7:=zD;clear hl HR hnr h1 h2 hm;cases R
   ·have hff:Hid (NR=false):=hid (by rw[HNR.out];rfl)
    go_enter Tryz.func218,Tryz.ntmps218;go_wp2_with fail;refine HRR.out.mono ?_;rintro r w1 ⟨rfl,hb1⟩;go_wp2_with fail;go_ret;exact⟨zQ,hb1⟩
   ·have hff:Hid (NR=decide (y≤4294967295)):=hid (by rw[HNR.out];rfl)
    go_enter Tryz.func218,Tryz.ntmps218;go_wp2_with fail;refine HRR.out.mono ?_;rintro r w1 ⟨rfl,hb1⟩;have X0:=(hb1.cell (p:=⟨b,o+m,none⟩) hbb).trans x0;clear x0;go_wp2_with fail;go_ret;exact⟨zQ,hb1⟩
  ·have d2:decide ((l.length:Int)≤8)=false:=Ad zD
   have hff:Hid (Di l=false):=hid (by rw[hnr,Ad (fun h=>h2 h.2:¬(1≤l.length∧l.length≤8))];rfl);clear hl HR hnr h1 h2;go_enter Tryz.func218,Tryz.ntmps218;go_wp2_with fail;go_ret;exact⟨zQ,Below.refl _ _⟩
 ·have d1:decide ((1:Int)≤(l.length:Int))=false:=Ad zD
  have hff:Hid (Di l=false):=hid (by rw[hnr,Ad (fun h=>h1 h.1:¬(1≤l.length∧l.length≤8))];rfl);clear hl HR hnr h1;go_enter Tryz.func218,Tryz.ntmps218;go_wp2_with fail;go_ret;exact⟨zQ,Below.refl _ _⟩
theorem N6(O:List (List Int))(q:Nat)(l:List Int)(a:Option Addr)(n c:Nat)(a':Option Addr)(n' c':Nat)(w:World)(ho:De.r (·<w.heap.size) w [.slice a n c] O)(hl:AV.r (·<w.heap.size) w [.slice a' n' c'] l)(hq:q≤O.length):
  Calls Tryz.prog 221 #[.slice a n c,.int .i64 (q:Int),.slice a' n' c'] w fun r w'=>r=.returned (.bool (!BM l (O.take q)))∧Below w.heap.size w w':=by
 obtain⟨rfl,hm,_,_⟩:=AU ho;obtain⟨rfl,hm',_,_⟩:=AU hl;have HL:=hid hl;have HO:=hid ho;have hqt:(O.take q).length=q:=by rw[List.length_take];omega
 have HG:=hid (fun (k:Nat) (h:k<q)=>(by rw[List.getElem_take]:(O.take q)[k]'zD=O[k]'zD));obtain⟨Y,hY⟩:∃Y,O.take q=Y:=⟨_,rfl⟩;simp only[hY] at HG hqt ⊢;clear hl ho;go_enter Tryz.func221,Tryz.ntmps221;go_wp2_with fail;go_loopw [7] (fun i wr=>∃k:Nat,k≤q∧i=.int .i64 k∧Hid (BM l Y=BM l (Y.drop k))∧Below w.heap.size w wr) (fun i _=>q-(intOf i).toNat)
 case atStart=>exact ⟨0,Ao _,rfl,hid rfl,Below.refl _ _⟩
 case round=>
  obtain⟨k,hk,rfl,hf,hb⟩:=hrel;by_cases hlt:k<q
  ·obtain⟨b,o,hA,hbb,ak,ck,x0,xl⟩:=GK (lift HO.out hb) (show k<O.length by omega)
   subst hA;have hst:=LO l Y k zD;rw[HG.out k hlt] at hst;have hst:=hid hst;have HX:=hid xl;have HB:=hid hb;have hbl:b<wr.heap.size:=DK _ _ x0;have i1:(k:Int)<(q:Int):=zD;have i2:(k:Int)<(O.length:Int):=zD;have d1:decide ((k:Int)<(q:Int))=true:=Ae i1;generalize O[k]'zD=X at*;clear xl hb;obtain⟨wo,hwo⟩:∃wo:World,wo=wr:=⟨_,rfl⟩;subst hwo;go_wp2_with fail;go_loopw [8] (fun i wr=>∃j:Nat,j≤l.length∧i=.int .i64 j∧Hid ((l.all fun n=> !X.contains n)=(l.drop j).all fun n=> !X.contains n)∧Below wo.heap.size wo wr) (fun i _=>l.length-(intOf i).toNat)
   case atStart=>exact ⟨0,Ao _,rfl,hid rfl,Below.refl _ _⟩
   case round=>
    obtain⟨j,hj,rfl,hg,hbj⟩:=hrel;have hbw:=HB.out.trans (hbj.mono HB.out.size);have HBW:=hid hbw;by_cases hjl:j<l.length
    ·obtain⟨b2,o2,hA2,hbb2,y0,hy0,hy1⟩:=Ep (lift HL.out hbw) hjl
     subst hA2;have hsj:=hid (O2 l (fun n=> !X.contains n) j hjl);have HCT:=hid (fun y (W:World) (hW:Below wr.heap.size wr W)=>RJ X y ak _ ck W (lift (lift HX.out hbj) hW));have j1:(j:Int)<(l.length:Int):=zD;have e1:decide ((j:Int)<(l.length:Int))=true:=Ae j1;have X0:=fun s:AS wr=>s.cell ((hbj.cell (p:=⟨b,o+k,none⟩) hbl).trans x0);have Y0:=fun s:AS wr=>s.cell y0;clear y0;generalize l[j]=y at*;have hct:=HCT.out y;by_cases hc:X.contains y=true
     ·simp only[hc] at hct
      have HC:=hid hct;have hff:Hid (BM l Y=false):=hid zBs;clear hc hct hbw hbj HCT;go_wp2_with fail;refine AI zL zL ?_;repeat (go_big_quiet_step ((go_at_call 251;exact Bv (HC.out _ (AS.below _)))))
      refine A8 ?_;rintro W5 ⟨⟨W5',hb5⟩,rfl⟩;have hbe:=Ag hb5 HBW.out;go_wp2_with fail;go_ret;exact⟨zQ,hbe⟩
     ·have hc':=eq_false_of_ne_true hc
      simp only[hc'] at hct;have HC:=hid hct;have hgg:Hid ((l.all fun n=> !X.contains n)=(l.drop (j+1)).all fun n=> !X.contains n):=hid zCd;have HBJ:=hid hbj;clear hc hc' hct hbw hbj HCT;go_wp2_with fail;refine AI zL zL ?_;repeat (go_big_quiet_step ((go_at_call 251;exact Bv (HC.out _ (AS.below _)))))
      refine A8 ?_;rintro W5 ⟨⟨W5',hb5⟩,rfl⟩;have hbe:=Ag hb5 HBJ.out;go_wp2_with fail;go_roundw
      case rel=>exact ⟨j+1,zD,zZ,hgg,hbe⟩
      case measure=>(simp[intOf];try omega)
    ·obtain rfl:j=l.length:=by omega
     have e1:decide ((l.length:Int)<(l.length:Int))=false:=Ad zD;have hff:Hid (BM l Y=BM l (Y.drop (k+1))):=hid zC3;clear hbj hbw;go_wp2_with fail;go_roundw
     case rel=>exact ⟨k+1,zD,zZ,hff,HBW.out⟩
     case measure=>(simp[intOf];try omega)
  ·obtain rfl:k=q:=by omega
   have d1:decide ((k:Int)<(k:Int))=false:=Ad zD;have hff:Hid (BM l Y=true):=hid (by rw[hf.out,show k=Y.length by omega,KH];rfl);go_wp2_with fail;go_ret;exact⟨zQ,hb⟩
theorem Mb{av:Option Addr}{cv m:Nat}{J:List Int}(h:W.ownsRow base 22 1 (.slice av J.length cv) J.length (Bu J))(hx:∀x∈J,0≤x∧x≤18446744073709551615)(hm:J.length=m+1):∃b o,av=some ⟨b,o,none⟩∧W.cell? ⟨b,o+m,none⟩=some (.int .u64 (J.getLastD 0)):=by
 obtain⟨b,o,e,_,hc,_⟩:=Ep (FT hx rfl h) (i:=m) zD;refine⟨b,o,e,?_⟩;rw[hc,Jo J zD];simp only[hm,Nat.add_sub_cancel]
theorem Lp{J:List Int}(hx:∀x∈J,0≤x∧x≤18446744073709551615)(h:J≠[]):0≤J.getLastD 0∧J.getLastD 0≤18446744073709551615:=by
 have hl:1≤J.length:=by cases J<;>simp_all
 rw[Jo J hl];exact hx _ (Da _)
theorem NI(w:World){g:Nat}{B:List UInt8}{a:Option Addr}{s:Rs}(h:AY w g B a s)(hB:B.length≤1000000000)(N:Nat)(hN:N≤1000):
  Calls Tryz.prog 190 #[.pointer (some ⟨g,0,none⟩),.int .i64 (N:Int)] w fun r w'=>∃v,r=.returned v∧AV.r (fun q=>w.heap.size≤q∧q<w'.heap.size) w' [v] (Rs.CL B N s []).2∧AB w g B a (Rs.CL B N s []).1 w':=by
 obtain⟨i0,hi,hz0,hz1,hz2⟩:=Bc Oz;have hlt:=h.blk.lt;have HIN:=hid (CY.refl h);have hmx:max (N:Int) 0=(N:Int):=zD;have hmx2:(if (N:Int)<0 then (0:Int) else (N:Int))=(N:Int):=zAh;clear h;go_enter Tryz.func190,Tryz.ntmps190;go_wp2_with fail;go_loopw [5,12] (fun v i wr=>∃(J:List Int) (st:Rs),J.length≤N∧i=.int .i64 (J.length:Int)∧wr.ownsRow w.heap.size 22 1 v J.length (Bu J)∧Hid (∀x∈J,0≤x∧x≤18446744073709551615)∧Hid (CY w wr g B a st)∧Hid (Rs.CL B N s []=Rs.CL B (N-J.length) st J)) (fun _ i _=>N-(intOf i).toNat)
 case atStart=>exact ⟨[],s,Ao _,rfl,⟨rfl,.inl ⟨rfl,rfl⟩⟩,hid zP,HIN,hid rfl⟩
 case round=>
  obtain⟨J,st,hk,rfl,hown,hJb,hin,hsp⟩:=hrel;obtain⟨av,cv,rfl⟩:=AX hown;have hJ9:J.length≤1000:=zD;have HJB:=hid hJb.out;rcases Bm J.length N with hlt2 | hge
  ·have HAT:=hid (Cc wr hin.out.rd)
   have HVR:=hid (CH wr hin.out.rd zD);have hx:=Rs.Cp (B:=B) (s:=st);have hxb:=Rs.Gg (B:=B) (s:=st);have hstep:Rs.CL B (N-J.length) st J=(if (st.num B).1.k=0 then (if J≠[]∧18446744073709551615-J.getLastD 0≤((st.num B).2:Int) then ((st.num B).1.fail 13 st.p,[]) else Rs.CL B (N-(J.length+1)) (st.num B).1 (J++[if J=[] then ((st.num B).2:Int) else ((st.num B).2:Int)+(J.getLastD 0+1)])) else ((st.num B).1,[])):=by
    rw[show N-J.length=(N-(J.length+1))+1 by omega];rfl
   have HO:=hid hown;have i1:(J.length:Int)<(N:Int):=zD;have d1:decide ((J.length:Int)<(N:Int))=true:=Ae i1;have d1':decide (J.length<N)=true:=Ae hlt2;generalize st.num B=R at*;obtain⟨st1,x⟩:=R;dsimp only at*;have HBAD:=hid hxb;have hx0':(0:Int)≤(x:Int):=zD;have hx1':(x:Int)≤18446744073709551615:=zD;clear hown hxb;by_cases hnil:J=[]
   ·have dz:decide ((0:Int)<(J.length:Int))=false:=by rw[hnil];rfl
    have dz2:decide (0<J.length)=false:=by rw[hnil];rfl
    by_cases hk1:st1.k=0
    ·rw[An hk1] at hstep
     have hk1':decide (st1.k=0)=true:=Ae hk1;have HSP:Hid (Rs.CL B N s []=Rs.CL B (N-(J.length+1)) st1 (J++[(x:Int)])):=hid (hsp.out.trans zC1);clear hstep hsp hk1 hnil;go_wp2_with fail;refine HAT.out.mono ?_;rintro r w2 ⟨rfl,rfl⟩;go_wp2_with fail;refine HVR.out.mono ?_;rintro r w3 ⟨rfl,hst3⟩;have HIN3:=hid (hin.out.step hst3);have HO3:=hid (Fh HO.out hlt hst3.2);have hg:=AG w3 HIN3.out.rd;rw[hk1'] at hg;have HG:=hid hg;clear hst3 hg;go_wp2_with fail;refine HG.out.mono ?_;rintro r w4 ⟨rfl,hb4⟩;have HIN4:=hid (HIN3.out.step (AB.later HIN3.out.rd hb4));have HO4:=hid (AR HO3.out hb4);have hsz4:=HIN4.out.tch.size;clear hb4;go_wp2_with (at_builtin;go_loud (refine Ar rfl _ _ _ rfl w.heap.size 22 i0 (.int .u64 0) 1 8 DN hi hz0 hz1 hz2 rfl zS (.slice av J.length cv) J.length _ rfl (AR HO4.out zA) (some ⟨w4.heap.size,0,none⟩) 1 1 [.int .u64 ((x:Int))] rfl (Bf _ 22 _ rfl zP rfl) zAf zR zD zM ?_;intro v' w5 hown5 hgrow5 hat5;obtain⟨a5,c5,rfl⟩:=AX hown5;have HO5:=hid hown5;have hb5:Below w.heap.size w4 w5:=(Below.grown ((by (repeat (first | with_reducible exact Below.refl _ _ | with_reducible assumption | (with_reducible refine Aw ?_ _) | (with_reducible refine Below.setCell ?_ zE _) | (with_reducible refine Below.drew ?_) | (with_reducible refine below_drewN ?_ _) | (refine Ag zI ?_))):Below w4.heap.size w4 _).mono hsz4) hgrow5 zM (fun g e=>(HO4.out.lt g e).1));clear hown5 hgrow5 hat5))
     have HIN5:=hid (HIN4.out.row hb5);have ho5:w5.ownsRow w.heap.size 22 1 (.slice a5 (J.length+1) c5) (J++[(x:Int)]).length (Bu (J++[(x:Int)])):=by
      have e:Bu (J++[(x:Int)])=Bu J++[.int .u64 ((x:Int))]:=zA7;rw[e,Au];exact HO5.out
     have HO6:=hid ho5;have HB6:Hid (∀y∈J++[(x:Int)],0≤y∧y≤18446744073709551615):=hid (fun y hy=>by
      rw[Ci,Bw] at hy;rcases hy with hy | rfl
      ·exact HJB.out y hy
      ·omega)
     clear ho5;go_roundw
     case rel=>exact ⟨J++[(x:Int)],st1,zAb,zBm,HO6.out,HB6,HIN5,hid zA4⟩
     case measure=>(simp[intOf];try omega)
    ·rw[Ak hk1] at hstep
     have hk1':decide (st1.k=0)=false:=Ad hk1;have HSP:=hid (hsp.out.trans hstep);clear hstep hsp;clear hk1 hnil;go_wp2_with fail;refine HAT.out.mono ?_;rintro r w2 ⟨rfl,rfl⟩;go_wp2_with fail;refine HVR.out.mono ?_;rintro r w3 ⟨rfl,hst3⟩;have HIN3:=hid (hin.out.step hst3);have HO3:=hid (Fh HO.out hlt hst3.2);have hg:=AG w3 HIN3.out.rd;rw[hk1'] at hg;have HG:=hid hg;clear hst3 hg;go_wp2_with fail;refine HG.out.mono ?_;rintro r w5 ⟨rfl,hb5⟩;have HE:=hid (HIN3.out.to.then hb5);go_wp2_with fail;go_ret;rw[HSP.out];exact⟨_,rfl,AZ (xs:=[]) rfl (Aj _) (Ao _) (.inl rfl),HE.out⟩
   ·obtain⟨hq0,hq1⟩:=Lp HJB.out hnil
    obtain⟨m,hm⟩:∃m,J.length=m+1:=⟨J.length-1,by have:J.length≠0:=fun e=>hnil (List.length_eq_zero_iff.1 e);omega⟩;have HM:=hid hm;have dz:decide ((0:Int)<(J.length:Int))=true:=Ae zD;have dz2:decide (0<J.length)=true:=Ae zD;have j1:(J.length:Int)-1=(m:Int):=zD;have j2:(0:Int)≤(J.length:Int)-1:=zD;have j3:(m:Int)<(J.length:Int):=zD;have HUL:=hid (fun (W:World) (h:W.ownsRow w.heap.size 22 1 (.slice av J.length cv) J.length (Bu J))=>Mb h HJB.out hm);generalize J.getLastD 0=q at*;by_cases hk1:st1.k=0
    ·rw[An hk1] at hstep
     have hk1':decide (st1.k=0)=true:=Ae hk1;by_cases hov:18446744073709551615-q≤(x:Int)
     ·rw[An ⟨hnil,hov⟩] at hstep
      have hfk:(st1.fail 13 st.p).k≠0:=Rs.BV zD;have HSP:=hid (hsp.out.trans hstep);clear hstep hsp;clear hk1 hk1' hnil hm;by_cases hqm:q=18446744073709551615
      ·subst hqm
       go_wp2_with fail;refine HAT.out.mono ?_;rintro r w2 ⟨rfl,rfl⟩;go_wp2_with fail;refine HVR.out.mono ?_;rintro r w3 ⟨rfl,hst3⟩;have HIN3:=hid (hin.out.step hst3);have HO3:=hid (Fh HO.out hlt hst3.2);obtain⟨b,o,rfl,hc3⟩:=HUL.out _ HO3.out;clear HUL hst3;go_wp2_with fail;refine (Br w3 HIN3.out.rd 13 (st.p:Int) zD).mono ?_;rintro r w4 ⟨rfl,hst4⟩;have HIN4:=hid (HIN3.out.step hst4);have hg:=AG w4 HIN4.out.rd;rw[Ad hfk] at hg;have HG:=hid hg;clear hst4 hg;go_wp2_with fail;refine HG.out.mono ?_;rintro r w5 ⟨rfl,hb5⟩;have HE:=hid (HIN4.out.to.then hb5);go_wp2_with fail;go_ret;rw[HSP.out];exact⟨_,rfl,AZ (xs:=[]) rfl (Aj _) (Ao _) (.inl rfl),HE.out⟩
      ·have w1':q+1≤18446744073709551615:=by omega
       have w0':0≤q+1:=zD;have e0:(q+1==0)=false:=beq_eq_false_iff_ne.2 zD;obtain⟨Y,hY⟩:∃Y,((x:Int)+(q+1))%18446744073709551616=Y:=⟨_,rfl⟩;have hY2:IntKind.u64.wrap ((x:Int)+(q+1))=Y:=by rw[KJ];exact hY
       have dY:decide (Y<(x:Int))=true:=Ae zD;go_wp2_with fail;refine HAT.out.mono ?_;rintro r w2 ⟨rfl,rfl⟩;go_wp2_with fail;refine HVR.out.mono ?_;rintro r w3 ⟨rfl,hst3⟩;have HIN3:=hid (hin.out.step hst3);have HO3:=hid (Fh HO.out hlt hst3.2);obtain⟨b,o,rfl,hc3⟩:=HUL.out _ HO3.out;clear HUL hst3;go_wp2_with fail;refine (Br w3 HIN3.out.rd 13 (st.p:Int) zD).mono ?_;rintro r w4 ⟨rfl,hst4⟩;have HIN4:=hid (HIN3.out.step hst4);have hg:=AG w4 HIN4.out.rd;rw[Ad hfk] at hg;have HG:=hid hg;clear hst4 hg;go_wp2_with fail;refine HG.out.mono ?_;rintro r w5 ⟨rfl,hb5⟩;have HE:=hid (HIN4.out.to.then hb5);go_wp2_with fail;go_ret;rw[HSP.out];exact⟨_,rfl,AZ (xs:=[]) rfl (Aj _) (Ao _) (.inl rfl),HE.out⟩
     ·rw[Ak (fun h=>hov h.2),Ak hnil] at hstep
      have w1':q+1≤18446744073709551615:=zD;have w0':0≤q+1:=zD;have w2':(x:Int)+(q+1)≤18446744073709551615:=zD;have w3':0≤(x:Int)+(q+1):=zD;have e0:(q+1==0)=false:=beq_eq_false_iff_ne.2 zD;have dY:decide ((x:Int)+(q+1)<(x:Int))=false:=Ad zD;have HSP:=hid (hsp.out.trans hstep);clear hstep hsp;clear hk1 hnil hm;go_wp2_with fail;refine HAT.out.mono ?_;rintro r w2 ⟨rfl,rfl⟩;go_wp2_with fail;refine HVR.out.mono ?_;rintro r w3 ⟨rfl,hst3⟩;have HIN3:=hid (hin.out.step hst3);have HO3:=hid (Fh HO.out hlt hst3.2);obtain⟨b,o,rfl,hc3⟩:=HUL.out _ HO3.out;have hg:=AG w3 HIN3.out.rd;rw[hk1'] at hg;have HG:=hid hg;clear hst3 hg;go_wp2_with fail;clear hc3 HUL;refine HG.out.mono ?_;rintro r w4 ⟨rfl,hb4⟩;have HIN4:=hid (HIN3.out.step (AB.later HIN3.out.rd hb4));have HO4:=hid (AR HO3.out hb4);have hsz4:=HIN4.out.tch.size;clear hb4;go_wp2_with (at_builtin;go_loud (refine Ar rfl _ _ _ rfl w.heap.size 22 i0 (.int .u64 0) 1 8 DN hi hz0 hz1 hz2 rfl zS (.slice (some ⟨b,o,none⟩) J.length cv) J.length _ rfl (AR HO4.out zA) (some ⟨w4.heap.size,0,none⟩) 1 1 [.int .u64 ((x:Int)+(q+1))] rfl (Bf _ 22 _ rfl zP rfl) zAf zR zD zM ?_;intro v' w5 hown5 hgrow5 hat5;obtain⟨a5,c5,rfl⟩:=AX hown5;have HO5:=hid hown5;have hb5:Below w.heap.size w4 w5:=(Below.grown ((by (repeat (first | with_reducible exact Below.refl _ _ | with_reducible assumption | (with_reducible refine Aw ?_ _) | (with_reducible refine Below.setCell ?_ zE _) | (with_reducible refine Below.drew ?_) | (with_reducible refine below_drewN ?_ _) | (refine Ag zI ?_))):Below w4.heap.size w4 _).mono hsz4) hgrow5 zM (fun g e=>(HO4.out.lt g e).1));clear hown5 hgrow5 hat5))
      have HIN5:=hid (HIN4.out.row hb5);have ho5:w5.ownsRow w.heap.size 22 1 (.slice a5 (J.length+1) c5) (J++[(x:Int)+(q+1)]).length (Bu (J++[(x:Int)+(q+1)])):=by
       have e:Bu (J++[(x:Int)+(q+1)])=Bu J++[.int .u64 ((x:Int)+(q+1))]:=zA7;rw[e,Au];exact HO5.out
      have HO6:=hid ho5;have HB6:Hid (∀y∈J++[(x:Int)+(q+1)],0≤y∧y≤18446744073709551615):=hid (fun y hy=>by
       rw[Ci,Bw] at hy;rcases hy with hy | rfl
       ·exact HJB.out y hy
       ·omega)
      clear ho5;go_roundw
      case rel=>exact ⟨J++[(x:Int)+(q+1)],st1,zAb,zBm,HO6.out,HB6,HIN5,hid zA4⟩
      case measure=>(simp[intOf];try omega)
    ·rw[Ak hk1] at hstep
     have hk1':decide (st1.k=0)=false:=Ad hk1;have hx0:=HBAD.out hk1;subst hx0;have hfid:st1.fail 13 st.p=st1:=Rs.Bl hk1;have HSP:=hid (hsp.out.trans hstep);clear hstep hsp;clear hk1 hnil hm;by_cases hqm:q=18446744073709551615
     ·subst hqm
      go_wp2_with fail;refine HAT.out.mono ?_;rintro r w2 ⟨rfl,rfl⟩;go_wp2_with fail;refine HVR.out.mono ?_;rintro r w3 ⟨rfl,hst3⟩;have HIN3:=hid (hin.out.step hst3);have HO3:=hid (Fh HO.out hlt hst3.2);obtain⟨b,o,rfl,hc3⟩:=HUL.out _ HO3.out;clear HUL hst3;go_wp2_with fail;refine (Br w3 HIN3.out.rd 13 (st.p:Int) zD).mono ?_;rintro r w4 ⟨rfl,hst4⟩;rw[hfid] at hst4;have HIN4:=hid (HIN3.out.step hst4);have hg:=AG w4 HIN4.out.rd;rw[hk1'] at hg;have HG:=hid hg;clear hst4 hg;go_wp2_with fail;refine HG.out.mono ?_;rintro r w5 ⟨rfl,hb5⟩;have HE:=hid (HIN4.out.to.then hb5);go_wp2_with fail;go_ret;rw[HSP.out];exact⟨_,rfl,AZ (xs:=[]) rfl (Aj _) (Ao _) (.inl rfl),HE.out⟩
     ·have w1':q+1≤18446744073709551615:=by omega
      have w0':0≤q+1:=zD;have e0:(q+1==0)=false:=beq_eq_false_iff_ne.2 zD;have dY:decide (q+1<0)=false:=Ad zD;have dY2:decide (((0:Nat):Int)+(q+1)<((0:Nat):Int))=false:=Ad zD;have dY3:decide ((0:Int)+(q+1)<0)=false:=Ad zD;go_wp2_with fail;refine HAT.out.mono ?_;rintro r w2 ⟨rfl,rfl⟩;go_wp2_with fail;refine HVR.out.mono ?_;rintro r w3 ⟨rfl,hst3⟩;have HIN3:=hid (hin.out.step hst3);have HO3:=hid (Fh HO.out hlt hst3.2);obtain⟨b,o,rfl,hc3⟩:=HUL.out _ HO3.out;clear HUL;have hg:=AG w3 HIN3.out.rd;rw[hk1'] at hg;have HG:=hid hg;clear hst3 hg;go_wp2_with fail;refine HG.out.mono ?_;rintro r w5 ⟨rfl,hb5⟩;have HE:=hid (HIN3.out.to.then hb5);go_wp2_with fail;go_ret;rw[HSP.out];exact⟨_,rfl,AZ (xs:=[]) rfl (Aj _) (Ao _) (.inl rfl),HE.out⟩
  ·have hJN:J.length=N:=by omega
   have d1:decide ((J.length:Int)<(N:Int))=false:=Ad zD;have d1':decide (J.length<N)=false:=Ad zD;have HSP:Hid (Rs.CL B N s []=(st,J)):=hid (by rw[hsp.out,hJN,Dg];rfl);have HV:=hid (FT hJb.out rfl hown);have HE:=hid hin.out.to;clear hown hsp hJN hk hge;go_wp2_with fail;go_ret;rw[HSP.out];exact⟨_,rfl,HV.out,HE.out⟩
end Go.Proofs.YtlbffbkbkajciaaGreat
