/- Mini: Needed by bodyReads_walk, part 8: texts put together by shake.py; no condition. -/
import Derived.Test.YtlbffbkbkajciaaGreatZT3
import Derived.Laws.Bits64
import Derived.Test.YtlbffbkbkajciaaGreatZT7
import Derived.Test.YtlbffbkbkajciaaGreatZT5
import Derived.Test.YtlbffbkbkajciaaGreatZT1
import Derived.Test.YtlbffbkbkajciaaGreatZT6
import Derived.Deep.RegionHeld3
import Derived.Test.YtlbffbkbkajciaaGreatZT4
import Derived.Test.YtlbffbkbkajciaaGreatZT2
set_option linter.unusedVariables false
set_option linter.unusedSimpArgs false
set_option maxRecDepth 100000
set_option maxHeartbeats 6400000
namespace Go.Bs
theorem zCq{p:Prop}(h:p:=by rw [hf.out, hst.out, hg.out, List.drop_length]; rfl):p:=h
theorem zCo{p:Prop}(h:p:=by rw [hstep, Ak (fun h => h.1 hnil), Al hnil]):p:=h
theorem zB2{p:Prop}(h:p:=by rw [hg.out, hsj.out]; simp only [hc', Bool.not_false, Cd]):p:=h
theorem zBo{p:Prop}(h:p:=by have := (HO3.out.lt _ e.symm).2; omega):p:=h
theorem zBi{p:Prop}(h:p:=by rw [hf.out, hst.out, hg.out, hsj.out]; simp only [hc, Bool.not_true, Ia]):p:=h
theorem zBd{p:Prop}(h:p:=by rw [Ar]; go_num):p:=h
theorem zA1{p:Prop}(h:p:=by rw [hf.out, List.drop_length]; rfl):p:=h
theorem zAx{p:Prop}(h:p:=by rw [Ar]; simp; omega):p:=h
theorem zAq{p:Prop}(h:p:=by rw [Ar]; exact HSP.out):p:=h
theorem zAk{p:Prop}(h:p:=by simp [results, Tryz.results203, go_sem, y0, y1, y2, y3, l1]):p:=h
theorem zY{p:Prop}(h:p:=by simp [results, Tryz.results121, go_sem, y0, y1, y2, y3, l1]):p:=h
theorem Ia:type_of% @Bool.false_and:=@Bool.false_and
end Go.Bs
namespace Go.Proofs.YtlbffbkbkajciaaGreat
open Go.RowKit Go.Bs Go.Maps
theorem Rs.Mn{B:List UInt8}{s:Rs}{m:Int}(h:(s.int B m).1.k≠0):(s.int B m).2=0:=by
 unfold Rs.int Rs.most at*;split at h
 ·split at h
  ·rename_i h1 h2;rw[Al h1,Al h2]
  ·rename_i h1 h2;rw[Al h1,Ak h2];exact Rs.Fh h
 ·rename_i h1;rw[Ak h1]
theorem Ct(n:Int):0≤IntKind.u64.wrap n∧IntKind.u64.wrap n≤18446744073709551615:=by
 rw[IntKind.wrap_u64];omega
theorem Ev{w:World}{lo:Nat}{e:TypeId}{size n:Nat}{v:Value}{xs:List Value}{g:Nat}{a b c d:Value}(h:w.ownsRow lo e size v n xs)(hg:g<lo):((((w.setCell ⟨g,0,none⟩ a).setCell ⟨g,1,none⟩ b).setCell ⟨g,2,none⟩ c).setCell ⟨g,3,none⟩ d).ownsRow lo e size v n xs:=
 Kz h fun q hv _=>by
  have:=(De h q hv).1
  repeat rw[Below.heap_setCell _ _ _ _ zF]
theorem O5{w:World}{lo:Nat}{e:TypeId}{size n:Nat}{v:Value}{xs:List Value}{g:Nat}{a b c d:Value}{o:Obj}(h:w.ownsRow lo e size v n xs)(hg:v.ownBlock≠some g):(((((w.setCell ⟨g,0,none⟩ a).setCell ⟨g,1,none⟩ b).setCell ⟨g,2,none⟩ c).setCell ⟨g,3,none⟩ d).alloc o).ownsRow lo e size v n xs:=
 Kz h fun q hv hl=>by
  have hq:q≠g:=fun e=>hg (e ▸ hv)
  rw[Below.heap_alloc _ _ q (by simpa using hl)]
  repeat rw[Below.heap_setCell _ _ _ _ hq]
theorem L1(w:World)(a:Option Addr)(c:Nat)(B:List UInt8)(hl:Ah.r (·<w.heap.size) w [.slice a B.length c] B)(s:Rs)(hs:s.ok B.length)(hB:B.length≤1000000000000):
  Calls Tryz.prog 121 #[CV a B.length c s,.int .i64 1] w fun r w'=>r=.returned (.tuple #[CV a B.length c (s.ep B).1,.int .u64 ((s.ep B).2:Int)])∧Below w.heap.size w w':=by
 have hR:=hid (fun (W:World) (hW:Below w.heap.size w W)=>CA W a c B (lift hl hW) s hs hB)
 have hF:=hid (fun (W:World) (t:Rs)=>Bg W a B.length c t 3 s.p zD)
 unfold Rs.ep;generalize s.num B=N at*
 obtain⟨s1,x⟩:=N
 dsimp only at*;clear hl hs;unfold CV at*;have hx0:(0:Int)≤(x:Int):=zD
 by_cases hk:s1.k=0
 ·rw[Al hk]
  have d0:(s1.k !=(0:Int))=false:=zA6
  clear hk;by_cases he:epR (x:Int)=true
  ·rw[Al he]
   have HR:=hid (fun (W:World)=>(by have:=IK (x:Int) hx0 W;rw[he] at this;exact this:Calls Tryz.prog 114 #[.int .u64 (x:Int)] W fun r w'=>r=.returned (.bool true)∧W=w'))
   clear he hF;go_enter Tryz.func121,Tryz.ntmps121
   go_wp2_with fail;refine (hR.out _ zA).mono ?_
   rintro r w1 ⟨rfl,hb⟩;have B0:Blk w1 w.heap.size 60 #[.slice a B.length c,.int .i64 (s.p:Int),.int .i64 s.k,.int .i64 s.f]:=Blk.later zB hb
   have B1:Blk w1 (w.heap.size+1) 60 #[.slice none 0 0,.int .i64 0,.int .i64 0,.int .i64 0]:=Blk.later zB hb
   have hbw:Below w.heap.size w w1:=zA
   obtain⟨x0,x1,x2,x3,f0,f1,f2,f3,l0⟩:=Ap B0
   obtain⟨y0,y1,y2,y3,g0,g1,g2,g3,l1⟩:=Ap B1
   clear hb;go_wp2_with fail;refine (HR.out _).mono ?_
   rintro r w2 ⟨rfl,rfl⟩;go_wp2;refine Ag (v:=.tuple #[.agg #[.slice a B.length c,.int .i64 (s1.p:Int),.int .i64 s1.k,.int .i64 s1.f],.int .u64 (x:Int)]) zY rfl ⟨rfl,zA⟩
  ·rw[Ak he]
   have HR:=hid (fun (W:World)=>(by have:=IK (x:Int) hx0 W;rw[Bool.eq_false_iff.2 he] at this;exact this:Calls Tryz.prog 114 #[.int .u64 (x:Int)] W fun r w'=>r=.returned (.bool false)∧W=w'))
   have HF:=hid (fun (W:World)=>hF.out W s1)
   clear he hF;dsimp only;generalize s1.fail 3 s.p=s2 at*
   go_enter Tryz.func121,Tryz.ntmps121
   go_wp2_with fail;refine (hR.out _ zA).mono ?_
   rintro r w1 ⟨rfl,hb⟩;have B0:Blk w1 w.heap.size 60 #[.slice a B.length c,.int .i64 (s.p:Int),.int .i64 s.k,.int .i64 s.f]:=Blk.later zB hb
   have B1:Blk w1 (w.heap.size+1) 60 #[.slice none 0 0,.int .i64 0,.int .i64 0,.int .i64 0]:=Blk.later zB hb
   have hbw:Below w.heap.size w w1:=zA
   obtain⟨x0,x1,x2,x3,f0,f1,f2,f3,l0⟩:=Ap B0
   obtain⟨y0,y1,y2,y3,g0,g1,g2,g3,l1⟩:=Ap B1
   clear hb;go_wp2_with fail;refine (HR.out _).mono ?_
   rintro r w2 ⟨rfl,rfl⟩;go_wp2_with fail;refine (HF.out _).mono ?_
   rintro r w3 ⟨rfl,hb3⟩;have B3:Blk w3 (w.heap.size+1) 60 #[.slice none 0 0,.int .i64 0,.int .i64 0,.int .i64 0]:=Blk.later (B1.alloc _) hb3
   have hbw3:Below w.heap.size w w3:=zA
   obtain⟨y0,y1,y2,y3,g0,g1,g2,g3,l1⟩:=Ap B3
   clear hb3;go_wp2;refine Ag (v:=.tuple #[.agg #[.slice a B.length c,.int .i64 (s2.p:Int),.int .i64 s2.k,.int .i64 s2.f],.int .u64 0]) zY rfl ⟨rfl,zA⟩
 ·rw[Ak hk]
  have d0:(s1.k !=(0:Int))=true:=zA6
  clear hk hF;dsimp only;go_enter Tryz.func121,Tryz.ntmps121
  go_wp2_with fail;refine (hR.out _ zA).mono ?_
  rintro r w1 ⟨rfl,hb⟩;have B0:Blk w1 w.heap.size 60 #[.slice a B.length c,.int .i64 (s.p:Int),.int .i64 s.k,.int .i64 s.f]:=Blk.later zB hb
  have B1:Blk w1 (w.heap.size+1) 60 #[.slice none 0 0,.int .i64 0,.int .i64 0,.int .i64 0]:=Blk.later zB hb
  have hbw:Below w.heap.size w w1:=zA
  obtain⟨x0,x1,x2,x3,f0,f1,f2,f3,l0⟩:=Ap B0
  obtain⟨y0,y1,y2,y3,g0,g1,g2,g3,l1⟩:=Ap B1
  clear hb;go_wp2;refine Ag (v:=.tuple #[.agg #[.slice a B.length c,.int .i64 (s1.p:Int),.int .i64 s1.k,.int .i64 s1.f],.int .u64 0]) zY rfl ⟨rfl,zA⟩
theorem PO(w:World)(a:Option Addr)(c:Nat)(B:List UInt8)(hl:Ah.r (·<w.heap.size) w [.slice a B.length c] B)(s:Rs)(hs:s.ok B.length)(hB:B.length≤1000000000000):
  Calls Tryz.prog 121 #[CV a B.length c s,.int .i64 2] w fun r w'=>r=.returned (.tuple #[CV a B.length c (s.po B).1,.int .u64 ((s.po B).2:Int)])∧Below w.heap.size w w':=by
 have hR:=hid (fun (W:World) (hW:Below w.heap.size w W)=>CA W a c B (lift hl hW) s hs hB)
 have hF:=hid (fun (W:World) (t:Rs)=>Bg W a B.length c t 3 s.p zD)
 unfold Rs.po;generalize s.num B=N at*
 obtain⟨s1,x⟩:=N
 dsimp only at*;clear hl hs;unfold CV at*;have hx0:(0:Int)≤(x:Int):=zD
 by_cases hk:s1.k=0
 ·rw[Al hk]
  have d0:(s1.k !=(0:Int))=false:=zA6
  clear hk;by_cases he:poR (x:Int)=true
  ·rw[Al he]
   have HR:=hid (fun (W:World)=>(by have:=Kr (x:Int) W;rw[he] at this;exact this:Calls Tryz.prog 89 #[.int .u64 (x:Int)] W fun r w'=>r=.returned (.bool true)∧W=w'))
   clear he hF;go_enter Tryz.func121,Tryz.ntmps121
   go_wp2_with fail;refine (hR.out _ zA).mono ?_
   rintro r w1 ⟨rfl,hb⟩;have B0:Blk w1 w.heap.size 60 #[.slice a B.length c,.int .i64 (s.p:Int),.int .i64 s.k,.int .i64 s.f]:=Blk.later zB hb
   have B1:Blk w1 (w.heap.size+1) 60 #[.slice none 0 0,.int .i64 0,.int .i64 0,.int .i64 0]:=Blk.later zB hb
   have hbw:Below w.heap.size w w1:=zA
   obtain⟨x0,x1,x2,x3,f0,f1,f2,f3,l0⟩:=Ap B0
   obtain⟨y0,y1,y2,y3,g0,g1,g2,g3,l1⟩:=Ap B1
   clear hb;go_wp2_with fail;refine (HR.out _).mono ?_
   rintro r w2 ⟨rfl,rfl⟩;go_wp2;refine Ag (v:=.tuple #[.agg #[.slice a B.length c,.int .i64 (s1.p:Int),.int .i64 s1.k,.int .i64 s1.f],.int .u64 (x:Int)]) zY rfl ⟨rfl,zA⟩
  ·rw[Ak he]
   have HR:=hid (fun (W:World)=>(by have:=Kr (x:Int) W;rw[Bool.eq_false_iff.2 he] at this;exact this:Calls Tryz.prog 89 #[.int .u64 (x:Int)] W fun r w'=>r=.returned (.bool false)∧W=w'))
   have HF:=hid (fun (W:World)=>hF.out W s1)
   clear he hF;dsimp only;generalize s1.fail 3 s.p=s2 at*
   go_enter Tryz.func121,Tryz.ntmps121
   go_wp2_with fail;refine (hR.out _ zA).mono ?_
   rintro r w1 ⟨rfl,hb⟩;have B0:Blk w1 w.heap.size 60 #[.slice a B.length c,.int .i64 (s.p:Int),.int .i64 s.k,.int .i64 s.f]:=Blk.later zB hb
   have B1:Blk w1 (w.heap.size+1) 60 #[.slice none 0 0,.int .i64 0,.int .i64 0,.int .i64 0]:=Blk.later zB hb
   have hbw:Below w.heap.size w w1:=zA
   obtain⟨x0,x1,x2,x3,f0,f1,f2,f3,l0⟩:=Ap B0
   obtain⟨y0,y1,y2,y3,g0,g1,g2,g3,l1⟩:=Ap B1
   clear hb;go_wp2_with fail;refine (HR.out _).mono ?_
   rintro r w2 ⟨rfl,rfl⟩;go_wp2_with fail;refine (HF.out _).mono ?_
   rintro r w3 ⟨rfl,hb3⟩;have B3:Blk w3 (w.heap.size+1) 60 #[.slice none 0 0,.int .i64 0,.int .i64 0,.int .i64 0]:=Blk.later (B1.alloc _) hb3
   have hbw3:Below w.heap.size w w3:=zA
   obtain⟨y0,y1,y2,y3,g0,g1,g2,g3,l1⟩:=Ap B3
   clear hb3;go_wp2;refine Ag (v:=.tuple #[.agg #[.slice a B.length c,.int .i64 (s2.p:Int),.int .i64 s2.k,.int .i64 s2.f],.int .u64 0]) zY rfl ⟨rfl,zA⟩
 ·rw[Ak hk]
  have d0:(s1.k !=(0:Int))=true:=zA6
  clear hk hF;dsimp only;go_enter Tryz.func121,Tryz.ntmps121
  go_wp2_with fail;refine (hR.out _ zA).mono ?_
  rintro r w1 ⟨rfl,hb⟩;have B0:Blk w1 w.heap.size 60 #[.slice a B.length c,.int .i64 (s.p:Int),.int .i64 s.k,.int .i64 s.f]:=Blk.later zB hb
  have B1:Blk w1 (w.heap.size+1) 60 #[.slice none 0 0,.int .i64 0,.int .i64 0,.int .i64 0]:=Blk.later zB hb
  have hbw:Below w.heap.size w w1:=zA
  obtain⟨x0,x1,x2,x3,f0,f1,f2,f3,l0⟩:=Ap B0
  obtain⟨y0,y1,y2,y3,g0,g1,g2,g3,l1⟩:=Ap B1
  clear hb;go_wp2;refine Ag (v:=.tuple #[.agg #[.slice a B.length c,.int .i64 (s1.p:Int),.int .i64 s1.k,.int .i64 s1.f],.int .u64 0]) zY rfl ⟨rfl,zA⟩
theorem Nd(w:World)(a:Option Addr)(c:Nat)(B:List UInt8)(hl:Ah.r (·<w.heap.size) w [.slice a B.length c] B)(s:Rs)(hs:s.ok B.length)(hB:B.length≤1000000000000)(below:Int)(hbl:0≤below∧below≤18446744073709551615)(most:Int)(hmo:0≤most∧most≤1000):
  Calls Tryz.prog 203 #[CV a B.length c s,.int .u64 below,.int .i64 most] w fun r w'=>∃v,r=.returned (.tuple #[CV a B.length c (s.delta B below most).1,v])∧AK.r (Cq w w') w' [v] (s.delta B below most).2∧Below w.heap.size w w':=by
 obtain⟨i0,hi,hz0,hz1,hz2⟩:=A8 Mp
 have hI:=hid (fun (W:World) (hW:Below w.heap.size w W)=>DZ W a c B (lift hl hW) s hs hB most zD)
 have hNm:=Rs.Fo (B:=B) (s:=s) (m:=most)
 have hNz:=Rs.Mn (B:=B) (s:=s) (m:=most)
 have hok:=Rs.DE (B:=B) hs (m:=most)
 have HL:=hid hl
 unfold Rs.delta;generalize s.int B most=I at*
 obtain⟨s1,N⟩:=I
 dsimp only at*;have hN:N≤1000:=zD
 have HNZ:=hid hNz
 have HOK:=hid hok
 clear hl hs hNz hok hNm;unfold CV at*;go_enter Tryz.func203,Tryz.ntmps203
 go_wp2_with fail;refine (hI.out _ zA).mono ?_
 rintro r w1 ⟨rfl,hb⟩;have B1:Blk w1 (w.heap.size+1) 60 #[.slice none 0 0,.int .i64 0,.int .i64 0,.int .i64 0]:=Blk.later zB hb
 have hbw:Below w.heap.size w w1:=zA
 have hs1:=hb.size
 simp at hs1
 have l1:=B1.lt
 have BD:Blk (w1.alloc (.cells #[.slice a B.length c,.int .i64 (s1.p:Int),.int .i64 s1.k,.int .i64 s1.f] 60)) w1.heap.size 60 #[.slice a B.length c,.int .i64 (s1.p:Int),.int .i64 s1.k,.int .i64 s1.f]:=zB
 have BR:Blk (w1.alloc (.cells #[.slice a B.length c,.int .i64 (s1.p:Int),.int .i64 s1.k,.int .i64 s1.f] 60)) (w.heap.size+1) 60 #[.slice none 0 0,.int .i64 0,.int .i64 0,.int .i64 0]:=B1.alloc _
 have hbD:Below w.heap.size w (w1.alloc (.cells #[.slice a B.length c,.int .i64 (s1.p:Int),.int .i64 s1.k,.int .i64 s1.f] 60)):=zA
 clear hb B1;go_wp2_with fail;go_loopw [1,10,11] (fun bb v i wr=>∃(k:Nat) (bel:Int) (J:List Int) (st:Rs),k≤N∧i=.int .i64 k∧bb=.int .u64 bel∧0≤bel∧bel≤18446744073709551615∧Hid (J.length=k)∧wr.ownsRow (w1.heap.size+1) 22 1 v J.length (Be J)∧Hid (∀x∈J,0≤x∧x≤18446744073709551615)∧Blk wr w1.heap.size 60 #[.slice a B.length c,.int .i64 (st.p:Int),.int .i64 st.k,.int .i64 st.f]∧Blk wr (w.heap.size+1) 60 #[.slice none 0 0,.int .i64 0,.int .i64 0,.int .i64 0]∧Below w.heap.size w wr∧w1.heap.size+1≤wr.heap.size∧Hid (st.ok B.length)∧Hid (st.k=0→Rs.Du B N s1 below []=Rs.Du B (N-k) st bel J)∧Hid (st.k≠0→Rs.Du B N s1 below []=(st,[]))) (fun _ _ i _=>N-(intOf i).toNat)
 case atStart=>exact ⟨0,below,[],s1,Am _,rfl,rfl,hbl.1,hbl.2,hid rfl,⟨rfl,.inl ⟨rfl,rfl⟩⟩,hid zR,BD,BR,hbD,zR,HOK,hid (fun _=>rfl),hid (fun h=>by rw[HNZ.out h];rfl)⟩
 case round=>
  obtain⟨k,bel,J,st,hk,rfl,rfl,hb0,hb1,hJl,hown,hJb,hD,hRs,hbe,hsz,hok,hsp,hsn⟩:=hrel
  obtain⟨av,cv,rfl⟩:=AP hown
  have hJ9:J.length≤1000:=zAs
  obtain⟨x0,x1,x2,x3,f0,f1,f2,f3,l0⟩:=Ap hD
  obtain⟨y0,y1,y2,y3,g0,g1,g2,g3,l1⟩:=Ap hRs
  have HO:=hid hown
  have HD:=hid hD
  have HRS:=hid hRs
  have HBE:=hid hbe
  clear hown hD hRs;rcases Ba k N with hlt2 | hge
  ·have i1:(k:Int)<(N:Int):=by omega
   have d1:decide ((k:Int)<(N:Int))=true:=Ae i1
   have d1':decide (k<N)=true:=Ae hlt2
   by_cases hk0:st.k=0
   ·have dk:(st.k==(0:Int))=true:=by simp[hk0]
    have hsp1:=hsp.out hk0
    have hstep:Rs.Du B (N-k) st bel J=(if (st.num B).1.k=0 then (if bel≤((st.num B).2:Int) then ((st.num B).1.fail 13 st.p,[]) else Rs.Du B (N-(k+1)) (st.num B).1 (bel-(st.num B).2-1) (J++[bel-(st.num B).2-1])) else ((st.num B).1,[])):=by
     rw[show N-k=(N-(k+1))+1 by omega];rfl
    rw[hstep] at hsp1
    have hVR:=hid (fun (W:World) (hW:Below w.heap.size w W)=>(by have:=CA W a c B (lift HL.out hW) st hok.out hB;unfold CV at this;exact this:Calls Tryz.prog 139 #[.agg #[.slice a B.length c,.int .i64 (st.p:Int),.int .i64 st.k,.int .i64 st.f]] W fun r w'=>r=.returned (.tuple #[.agg #[.slice a B.length c,.int .i64 ((st.num B).1.p:Int),.int .i64 (st.num B).1.k,.int .i64 (st.num B).1.f],.int .u64 ((st.num B).2:Int)])∧Below W.heap.size W w'))
    have hx:=Rs.Ch (B:=B) (s:=st)
    have hnok:=Rs.Cm (B:=B) hok.out
    have HFL:=hid (fun (W:World) (t:Rs)=>(by have:=Bg W a B.length c t 13 (st.p:Int) zD;unfold CV at this;exact this:Calls Tryz.prog 120 #[.agg #[.slice a B.length c,.int .i64 (t.p:Int),.int .i64 t.k,.int .i64 t.f],.int .i64 13,.int .i64 (st.p:Int)] W fun r w'=>r=.returned (.agg #[.slice a B.length c,.int .i64 ((t.fail 13 (st.p:Int)).p:Int),.int .i64 (t.fail 13 (st.p:Int)).k,.int .i64 (t.fail 13 (st.p:Int)).f])∧Below W.heap.size W w'))
    clear hsp hsn hstep hk0;generalize st.num B=R at*
    obtain⟨st1,x⟩:=R
    dsimp only at*;have HOK1:=hid hnok
    clear hnok;by_cases hk1:st1.k=0
    ·rw[Al hk1] at hsp1
     have dk1:(st1.k==(0:Int))=true:=zBh
     by_cases hbx:bel≤(x:Int)
     ·rw[Al hbx] at hsp1
      have d2:decide (bel≤(x:Int))=true:=Ae hbx
      have hfk:(st1.fail 13 (st.p:Int)).k≠0:=Rs.By zD
      have HOK2:=hid (Rs.BH HOK1.out (c:=13) (at_:=(st.p:Int)) zD)
      have HSP:=hid hsp1
      have HFK:=hid hfk
      have HF:=hid (fun (W:World)=>HFL.out W st1)
      clear hsp1 hfk hk1 HFL;generalize st1.fail 13 (st.p:Int)=st2 at*
      obtain⟨y,hy,hy0,hy1⟩:∃y,IntKind.u64.wrap (IntKind.u64.wrap (bel-(x:Int))-1)=y∧0≤y∧y≤18446744073709551615:=⟨_,rfl,(Ct _).1,(Ct _).2⟩
      have HY:=hid hy
      clear hy;go_wp2_with fail;refine (hVR.out _ HBE.out).mono ?_
      rintro r w3 ⟨rfl,hb3⟩;have D3:=HD.out.later hb3
      have R3:=HRS.out.later hb3
      have HO3:=hid (AI HO.out hb3)
      have hbe3:=Af hb3 HBE.out
      have hs3:=hb3.size
      obtain⟨x0,x1,x2,x3,f0,f1,f2,f3,l0⟩:=Ap D3
      clear hb3 y0 y1 y2 y3 g0 g1 g2 g3 l1;have hbe4:Below w.heap.size w (w3.alloc (.cells #[.slice a B.length c,.int .i64 (st1.p:Int),.int .i64 st1.k,.int .i64 st1.f] 60)):=zA
      have D4:Blk (w3.alloc (.cells #[.slice a B.length c,.int .i64 (st1.p:Int),.int .i64 st1.k,.int .i64 st1.f] 60)) w1.heap.size 60 #[.slice a B.length c,.int .i64 (st.p:Int),.int .i64 st.k,.int .i64 st.f]:=D3.alloc _
      have R4:Blk (w3.alloc (.cells #[.slice a B.length c,.int .i64 (st1.p:Int),.int .i64 st1.k,.int .i64 st1.f] 60)) (w.heap.size+1) 60 #[.slice none 0 0,.int .i64 0,.int .i64 0,.int .i64 0]:=R3.alloc _
      have X4:Blk (w3.alloc (.cells #[.slice a B.length c,.int .i64 (st1.p:Int),.int .i64 st1.k,.int .i64 st1.f] 60)) w3.heap.size 60 #[.slice a B.length c,.int .i64 (st1.p:Int),.int .i64 st1.k,.int .i64 st1.f]:=Blk.newAt _ _ _ rfl
      go_wp2_with fail;refine (HF.out _).mono ?_
      rintro r w6 ⟨rfl,hb6⟩;have D6:=D4.later hb6
      have R6:=R4.later hb6
      have X6:=X4.later hb6
      have HO6':=hid (AI HO3.out (show Below w3.heap.size w3 w6 from ((Below.refl _ _).alloc (Ai _) _).trans (hb6.mono zR)))
      have hbe6:=Af hb6 hbe4
      have hs6:=hb6.size
      simp at hs6
      have HS6:Hid (w1.heap.size+1≤w6.heap.size):=hid zD
      clear hb6 D4 R4 X4 hbe4 x0 x1 x2 x3 f0 f1 f2 f3 l0;obtain⟨x0,x1,x2,x3,f0,f1,f2,f3,l0⟩:=Ap D6
      obtain⟨q0,q1,q2,q3,p0,p1,p2,p3,lq⟩:=Ap X6
      go_wp2_with (at_builtin;(try rw[HY.out]);go_loud (refine Aq rfl _ _ _ rfl (w1.heap.size+1) 22 i0 (.int .u64 0) 1 8 Tryz.underlying23 hi hz0 hz1 hz2 rfl zS (.slice av J.length cv) J.length _ rfl (O5 HO6'.out (fun e=>by have:=(HO3.out.lt _ e).2;omega)) (some ⟨w6.heap.size,0,none⟩) 1 1 [.int .u64 (y)] rfl (A9 _ 22 _ rfl zR rfl) Z3 zQ zD zK ?_;intro v' w5 hown5 hgrow5 hat5;obtain⟨a5,c5,rfl⟩:=AP hown5;have HO5:=hid hown5;have hb5:Below (w1.heap.size+1) w6 w5:=(Below.grown ((((((Below.refl _ _).setCell zF _).setCell zF _).setCell zF _).setCell zF _).alloc zK _) hgrow5 zK (fun g e=>(HO6'.out.lt g e).1));have E5:=(hgrow5.block w3.heap.size zK (fun e=>zBo)).trans (((((X6.set 0 _).set 1 _).set 2 _).set 3 _).alloc _);have E5':Blk w5 w3.heap.size 60 #[.slice a B.length c,.int .i64 (st2.p:Int),.int .i64 st2.k,.int .i64 st2.f]:=E5;have D5:=D6.below hb5 zD;have R5:=R6.below hb5 zD;have hbe5:Below w.heap.size w w5:=hbe6.trans (hb5.mono zD);have hs5:=hb5.size;clear hown5 hgrow5 hat5 x0 x1 x2 x3 f0 f1 f2 f3 l0;obtain⟨x0',x1',x2',x3',f0',f1',f2',f3',l0'⟩:=Ap D5;obtain⟨z0,z1,z2,z3,e0,e1,e2,e3,l5⟩:=Ap E5'))
      have ho5:w5.ownsRow (w1.heap.size+1) 22 1 (.slice a5 (J.length+1) c5) (J++[y]).length (Be (J++[y])):=by
       have e:Be (J++[y])=Be J++[.int .u64 (y)]:=zAu
       rw[e,Ar]
       exact HO5.out
      have HO6:=hid ho5
      have HB6:Hid (∀t∈J++[y],0≤t∧t≤18446744073709551615):=hid (fun t ht=>by
       rw[BK,Bf] at ht
       rcases ht with ht | rfl
       ·exact hJb.out t ht
       ·omega)
      have HRR:=hid R5
      have HDD:=hid D5
      have HBE5:=hid hbe5
      clear ho5 R5 D5 E5 E5' hbe5;go_roundw
      case rel=>exact ⟨k+1,y,J++[y],st2,zD,ZB,rfl,zD,zD,hid zB9,Ev HO6.out zD,HB6,(((HDD.out.set 0 _).set 1 _).set 2 _).set 3 _,Blk.far (Blk.far (Blk.far (Blk.far HRR.out zF _) zF _) zF _) zF _,(((HBE5.out.setCell zF _).setCell zF _).setCell zF _).setCell zF _,zK,HOK2,hid (fun h=>absurd h HFK.out),hid (fun _=>HSP.out)⟩
      case measure=>simp [intOf];omega
     ·rw[Ak hbx] at hsp1
      have d2:decide (bel≤(x:Int))=false:=Ad hbx
      have HSP:=hid hsp1
      have HK1:=hid hk1
      have w1':0≤bel-(x:Int):=zD
      have w2':bel-(x:Int)≤18446744073709551615:=zD
      have w3':0≤bel-(x:Int)-1:=zD
      have w4':bel-(x:Int)-1≤18446744073709551615:=zD
      clear hsp1 hk1 HFL;go_wp2_with fail;refine (hVR.out _ HBE.out).mono ?_
      rintro r w3 ⟨rfl,hb3⟩;have D3:=HD.out.later hb3
      have R3:=HRS.out.later hb3
      have HO3:=hid (AI HO.out hb3)
      have hbe3:=Af hb3 HBE.out
      have hs3:=hb3.size
      obtain⟨x0,x1,x2,x3,f0,f1,f2,f3,l0⟩:=Ap D3
      clear hb3 y0 y1 y2 y3 g0 g1 g2 g3 l1;have HS3:Hid (w1.heap.size+1≤w3.heap.size):=hid zD
      have X3:Blk (w3.alloc (.cells #[.slice a B.length c,.int .i64 (st1.p:Int),.int .i64 st1.k,.int .i64 st1.f] 60)) w3.heap.size 60 #[.slice a B.length c,.int .i64 (st1.p:Int),.int .i64 st1.k,.int .i64 st1.f]:=Blk.newAt _ _ _ rfl
      go_wp2_with (at_builtin;skip;go_loud (refine Aq rfl _ _ _ rfl (w1.heap.size+1) 22 i0 (.int .u64 0) 1 8 Tryz.underlying23 hi hz0 hz1 hz2 rfl zS (.slice av J.length cv) J.length _ rfl (AI HO3.out zA) (some ⟨w3.heap.size+1,0,none⟩) 1 1 [.int .u64 (bel-(x:Int)-1)] rfl (A9 _ 22 _ rfl zR rfl) Z3 zQ zD zK ?_;intro v' w5 hown5 hgrow5 hat5;obtain⟨a5,c5,rfl⟩:=AP hown5;have HO5:=hid hown5;have hb5:Below (w1.heap.size+1) w3 w5:=(Below.grown ((by (repeat (first | with_reducible exact Below.refl _ _ | with_reducible assumption | (with_reducible refine As ?_ _) | (with_reducible refine Below.setCell ?_ zE _) | (with_reducible refine Below.drew ?_) | (with_reducible refine below_drewN ?_ _) | (refine Af zH ?_))):Below w3.heap.size w3 _).mono HS3.out) hgrow5 zK (fun g e=>(HO3.out.lt g e).1));have E5:=(hgrow5.block w3.heap.size zK (fun e=>zBo)).trans (X3.alloc _);have E5':Blk w5 w3.heap.size 60 #[.slice a B.length c,.int .i64 (st1.p:Int),.int .i64 st1.k,.int .i64 st1.f]:=E5;have D5:=D3.below hb5 zD;have R5:=R3.below hb5 zD;have hbe5:Below w.heap.size w w5:=hbe3.trans (hb5.mono zD);have hs5:=hb5.size;clear hown5 hgrow5 hat5 x0 x1 x2 x3 f0 f1 f2 f3 l0;obtain⟨x0',x1',x2',x3',f0',f1',f2',f3',l0'⟩:=Ap D5;obtain⟨z0,z1,z2,z3,e0,e1,e2,e3,l5⟩:=Ap E5'))
      have ho5:w5.ownsRow (w1.heap.size+1) 22 1 (.slice a5 (J.length+1) c5) (J++[bel-(x:Int)-1]).length (Be (J++[bel-(x:Int)-1])):=by
       have e:Be (J++[bel-(x:Int)-1])=Be J++[.int .u64 (bel-(x:Int)-1)]:=zAu
       rw[e,Ar]
       exact HO5.out
      have HO6:=hid ho5
      have HB6:Hid (∀t∈J++[bel-(x:Int)-1],0≤t∧t≤18446744073709551615):=hid (fun t ht=>by
       rw[BK,Bf] at ht
       rcases ht with ht | rfl
       ·exact hJb.out t ht
       ·omega)
      have HRR:=hid R5
      have HDD:=hid D5
      have HBE5:=hid hbe5
      clear ho5 R5 D5 E5 E5' hbe5;go_roundw
      case rel=>exact ⟨k+1,bel-(x:Int)-1,J++[bel-(x:Int)-1],st1,zD,ZB,rfl,zD,zD,hid zB9,Ev HO6.out zD,HB6,(((HDD.out.set 0 _).set 1 _).set 2 _).set 3 _,Blk.far (Blk.far (Blk.far (Blk.far HRR.out zF _) zF _) zF _) zF _,(((HBE5.out.setCell zF _).setCell zF _).setCell zF _).setCell zF _,zK,HOK1,hid (fun _=>HSP.out),hid (fun h=>absurd HK1.out h)⟩
      case measure=>simp [intOf];omega
    ·rw[Ak hk1] at hsp1
     have dk1:(st1.k==(0:Int))=false:=zBh
     have HSP:=hid hsp1
     have HK1:=hid hk1
     clear hsp1 hk1 HFL;obtain⟨y,hy,hy0,hy1⟩:∃y,IntKind.u64.wrap (IntKind.u64.wrap (bel-(x:Int))-1)=y∧0≤y∧y≤18446744073709551615:=⟨_,rfl,(Ct _).1,(Ct _).2⟩
     have HY:=hid hy
     clear hy;go_wp2_with fail;refine (hVR.out _ HBE.out).mono ?_
     rintro r w3 ⟨rfl,hb3⟩;have D3:=HD.out.later hb3
     have R3:=HRS.out.later hb3
     have HO3:=hid (AI HO.out hb3)
     have hbe3:=Af hb3 HBE.out
     have hs3:=hb3.size
     obtain⟨x0,x1,x2,x3,f0,f1,f2,f3,l0⟩:=Ap D3
     clear hb3 y0 y1 y2 y3 g0 g1 g2 g3 l1;have HS3:Hid (w1.heap.size+1≤w3.heap.size):=hid zD
     have X3:Blk (w3.alloc (.cells #[.slice a B.length c,.int .i64 (st1.p:Int),.int .i64 st1.k,.int .i64 st1.f] 60)) w3.heap.size 60 #[.slice a B.length c,.int .i64 (st1.p:Int),.int .i64 st1.k,.int .i64 st1.f]:=Blk.newAt _ _ _ rfl
     go_wp2_with (at_builtin;(try rw[HY.out]);go_loud (refine Aq rfl _ _ _ rfl (w1.heap.size+1) 22 i0 (.int .u64 0) 1 8 Tryz.underlying23 hi hz0 hz1 hz2 rfl zS (.slice av J.length cv) J.length _ rfl (AI HO3.out zA) (some ⟨w3.heap.size+1,0,none⟩) 1 1 [.int .u64 (y)] rfl (A9 _ 22 _ rfl zR rfl) Z3 zQ zD zK ?_;intro v' w5 hown5 hgrow5 hat5;obtain⟨a5,c5,rfl⟩:=AP hown5;have HO5:=hid hown5;have hb5:Below (w1.heap.size+1) w3 w5:=(Below.grown ((by (repeat (first | with_reducible exact Below.refl _ _ | with_reducible assumption | (with_reducible refine As ?_ _) | (with_reducible refine Below.setCell ?_ zE _) | (with_reducible refine Below.drew ?_) | (with_reducible refine below_drewN ?_ _) | (refine Af zH ?_))):Below w3.heap.size w3 _).mono HS3.out) hgrow5 zK (fun g e=>(HO3.out.lt g e).1));have E5:=(hgrow5.block w3.heap.size zK (fun e=>zBo)).trans (X3.alloc _);have E5':Blk w5 w3.heap.size 60 #[.slice a B.length c,.int .i64 (st1.p:Int),.int .i64 st1.k,.int .i64 st1.f]:=E5;have D5:=D3.below hb5 zD;have R5:=R3.below hb5 zD;have hbe5:Below w.heap.size w w5:=hbe3.trans (hb5.mono zD);have hs5:=hb5.size;clear hown5 hgrow5 hat5 x0 x1 x2 x3 f0 f1 f2 f3 l0;obtain⟨x0',x1',x2',x3',f0',f1',f2',f3',l0'⟩:=Ap D5;obtain⟨z0,z1,z2,z3,e0,e1,e2,e3,l5⟩:=Ap E5'))
     have ho5:w5.ownsRow (w1.heap.size+1) 22 1 (.slice a5 (J.length+1) c5) (J++[y]).length (Be (J++[y])):=by
      have e:Be (J++[y])=Be J++[.int .u64 (y)]:=zAu
      rw[e,Ar]
      exact HO5.out
     have HO6:=hid ho5
     have HB6:Hid (∀t∈J++[y],0≤t∧t≤18446744073709551615):=hid (fun t ht=>by
      rw[BK,Bf] at ht
      rcases ht with ht | rfl
      ·exact hJb.out t ht
      ·omega)
     have HRR:=hid R5
     have HDD:=hid D5
     have HBE5:=hid hbe5
     clear ho5 R5 D5 E5 E5' hbe5;go_roundw
     case rel=>exact ⟨k+1,y,J++[y],st1,zD,ZB,rfl,zD,zD,hid zB9,Ev HO6.out zD,HB6,(((HDD.out.set 0 _).set 1 _).set 2 _).set 3 _,Blk.far (Blk.far (Blk.far (Blk.far HRR.out zF _) zF _) zF _) zF _,(((HBE5.out.setCell zF _).setCell zF _).setCell zF _).setCell zF _,zK,HOK1,hid (fun h=>absurd h HK1.out),hid (fun _=>HSP.out)⟩
     case measure=>simp [intOf];omega
   ·have dk:(st.k==(0:Int))=false:=by simp[hk0]
    have dn:(st.k !=(0:Int))=true:=zBp
    have HSP:=hid (hsn.out hk0)
    clear hsp hsn hk0;go_wp2;rw[HSP.out]
    refine Ag (v:=.tuple #[.agg #[.slice a B.length c,.int .i64 (st.p:Int),.int .i64 st.k,.int .i64 st.f],.slice none 0 0]) zAk rfl ⟨_,rfl,AM (xs:=[]) rfl (Ai _) (Am _) (.inl rfl),zA⟩
  ·obtain rfl:k=N:=by omega
   have d1:decide ((k:Int)<(k:Int))=false:=Ad zD
   by_cases hk0:st.k=0
   ·have dn:(st.k !=(0:Int))=false:=by simp[hk0]
    have hsp1:=hsp.out hk0
    rw[CS] at hsp1
    have HSP:Hid (Rs.Du B k s1 below []=(st,J)):=hid hsp1
    have HV:=hid (EX hJb.out rfl HO.out)
    clear hsp hsn hk0 hsp1;go_wp2;rw[HSP.out]
    refine Ag (v:=.tuple #[.agg #[.slice a B.length c,.int .i64 (st.p:Int),.int .i64 st.k,.int .i64 st.f],.slice av J.length cv]) zAk rfl ⟨_,rfl,?_,zA⟩
    refine AK.mono (AK.keep HV.out fun q hq=> ?_) fun q hq=>⟨zZ,ZD⟩
    have:=hq.1
    repeat (rw[Below.heap_setCell _ _ _ _ zF])
   ·have dn:(st.k !=(0:Int))=true:=by simp[hk0]
    have HSP:=hid (hsn.out hk0)
    clear hsp hsn hk0;go_wp2;rw[HSP.out]
    refine Ag (v:=.tuple #[.agg #[.slice a B.length c,.int .i64 (st.p:Int),.int .i64 st.k,.int .i64 st.f],.slice none 0 0]) zAk rfl ⟨_,rfl,AM (xs:=[]) rfl (Ai _) (Am _) (.inl rfl),zA⟩
end Go.Proofs.YtlbffbkbkajciaaGreat
namespace Go.Bs
open Go.RowKit
structure Ix where
 epoch:Int
 node:Int
 tail:Int
 deriving DecidableEq
structure BZ where
 lo:Int
 hi:Int
 sets:List (List Int)
 deriving DecidableEq
structure Ei where
 epoch:Int
 stripes:List BZ
 deriving DecidableEq
structure Msg where
 kind:Int
 epoch:Int
 seq:Int
 pos:Int
 count:Int
 state:Int
 streams:List Int
 links:List Bv
 data:List UInt8
 sea:Ix
 proj:Ei
 deriving DecidableEq
def CP:Rp (List (List Int)):=rSl 1 AK
def FD:Rp BZ:=rBy (fun s=>(s.lo,s.hi,s.sets)) (IQ (Le .u64) (IQ (Le .u64) CP))
def AS:Rp (List BZ):=rSl 3 FD
def inU(x:Int):Prop:=0≤x∧x≤18446744073709551615
def inI(x:Int):Prop:=-9223372036854775808≤x∧x≤9223372036854775807
section
variable {S:Nat→Prop} {w:World} {cs:List Value}
theorem K4{x:BZ}(h:FD.r S w cs x):∃a c,cs=[.int .u64 x.lo,.int .u64 x.hi,.slice a x.sets.length c]∧inU x.lo∧inU x.hi∧CP.r S w [.slice a x.sets.length c] x.sets:=by
 obtain⟨c1,c2,rfl,⟨rfl,h1⟩,c3,c4,rfl,⟨rfl,h2⟩,h3⟩:=h
 obtain⟨a,c,rfl,h4,_⟩:=Au h3
 exact⟨a,c,rfl,bounds_u64 h1,bounds_u64 h2,h4⟩
structure Bl(S:Nat→Prop)(w:World)(m:Msg)(a1:Option Addr)(c1:Nat)(a2:Option Addr)(c2:Nat)(a3:Option Addr)(c3:Nat)(a4:Option Addr)(c4:Nat):Prop where
 kind:inI m.kind
 epoch:inU m.epoch
 seq:inU m.seq
 pos:inU m.pos
 count:inI m.count
 state:inI m.state
 sealE:inU m.sea.epoch
 sealN:inU m.sea.node
 sealT:inU m.sea.tail
 projE:inU m.proj.epoch
 streams:AK.r S w [.slice a1 m.streams.length c1] m.streams
 links:BE.r S w [.slice a2 m.links.length c2] m.links
 data:Ah.r S w [.slice a3 m.data.length c3] m.data
 stripes:AS.r S w [.slice a4 m.proj.stripes.length c4] m.proj.stripes
theorem Kj{x:BZ}{v:Value}(h0:inU x.lo)(h1:inU x.hi)(h:CP.r S w [v] x.sets):FD.r S w [.int .u64 x.lo,.int .u64 x.hi,v] x:=
 ⟨[_],[_,_],rfl,⟨rfl,GX h0⟩,[_],[_],rfl,⟨rfl,GX h1⟩,h⟩
theorem FC{xs:List (List Int)}{a:Option Addr}{n c:Nat}(h:CP.r S w [.slice a n c] xs){i:Nat}(hi:i<xs.length):∃b off,a=some ⟨b,off,none⟩∧S b∧∃a' c',w.cell? ⟨b,off+i,none⟩=some (.slice a' xs[i].length c')∧AK.r S w [.slice a' xs[i].length c'] xs[i]:=by
 obtain⟨b,off,e,hS,cs,_,hc,hA⟩:=Kk h hi
 obtain⟨a',c',rfl,h1,_⟩:=Au hA
 have:=hc 0 _ rfl
 rw[DB,Cs] at this
 exact⟨b,off,e,hS,a',c',this,h1⟩
theorem Fs{xs:List BZ}{a:Option Addr}{n c:Nat}(h:AS.r S w [.slice a n c] xs){i:Nat}(hi:i<xs.length):∃b off,a=some ⟨b,off,none⟩∧S b∧∃a' c',w.cell? ⟨b,off+i*3,none⟩=some (.int .u64 xs[i].lo)∧w.cell? ⟨b,off+i*3+1,none⟩=some (.int .u64 xs[i].hi)∧w.cell? ⟨b,off+i*3+2,none⟩=some (.slice a' xs[i].sets.length c')∧
  inU xs[i].lo∧inU xs[i].hi∧CP.r S w [.slice a' xs[i].sets.length c'] xs[i].sets:=by
 obtain⟨b,off,e,hS,cs,_,hc,hA⟩:=Kk h hi
 obtain⟨a',c',rfl,h1,h2,h3⟩:=K4 hA
 exact⟨b,off,e,hS,a',c',hc 0 _ rfl,hc 1 _ rfl,hc 2 _ rfl,h1,h2,h3⟩
end
def Gd(s:Ix):Bool:=epR s.epoch&&(decide (s.node≤4294967295)&&decide (s.tail≤4611686018427387904))
def CX(l:List Int):Bool:=decide (1≤l.length∧l.length≤8)&&(BQ l&&decide (l.getLastD 0≤4294967295))
def Br(l:List Int)(others:List (List Int)):Bool:=others.all fun o=>l.all fun n=> !o.contains n
def FW(L:List (List Int))(i:Nat):Bool:=CX (L.getD i [])&&Br (L.getD i []) (L.take i)
def Bh(L:List (List Int)):Nat→Bool
 | 0=>true
 | n+1=>Bh L n&&FW L n
def Db(s:BZ):Bool:=decide (s.lo<s.hi∧s.hi≤4611686018427387904∧1≤s.sets.length∧s.sets.length≤8)&&Bh s.sets s.sets.length
def Fp:Int→List BZ→Bool
 | p,[]=>decide (p=4611686018427387904)
 | p,s::l=>decide (s.lo=p)&&(Db s&&Fp s.hi l)
def DI(p:Ei):Bool:=epR p.epoch&&(decide (1≤p.stripes.length∧p.stripes.length≤64)&&Fp 0 p.stripes)
def CN(k:Int):Nat:=if k<1∨14<k then 0 else [0,1,33,0,1,1,10,0,128,36,0,64,17,128,4].getD k.toNat 0
def AE(k:Int)(p:Nat):Bool:=CN k/p%2==1
def C4(k:Int):Int:=if k=9 then 4 else 20
def BJ(k st:Int):Bool:=decide (k=2) || (decide (k=9)&&decide (st=1))
def BG(h r z:Bool):Bool:=if h then r else z
def NC:Ix:=⟨0,0,0⟩
def J4(m:Msg):Bool:=
 decide (1≤m.kind∧m.kind≤14)&&(BG (AE m.kind 1) (poR m.pos) (decide (m.pos=0))&&(BG (AE m.kind 2) (decide (1≤m.count∧m.count≤65536)) (decide (m.count=0))&&
 (BG (AE m.kind 4) (decide (1≤m.state∧m.state≤C4 m.kind)) (decide (m.state=0))&&(BG (AE m.kind 8) (decide (m.streams.length≤16)&&BQ m.streams) (decide (m.streams.length=0))&&
 (BG (AE m.kind 16) (Df m.pos m.links) (decide (m.links.length=0))&&(BG (AE m.kind 64) (Gd m.sea) (decide (m.sea=NC))&&
 (BG (AE m.kind 128) (DI m.proj) (decide (m.proj.epoch=0)&&decide (m.proj.stripes.length=0))&&(decide (m.data.length=0) || (BJ m.kind m.state&&decide (m.data.length≤1048576))))))))))
theorem JB(k:Int):CN k∈[0,1,33,10,128,36,64,17,4]:=by
 unfold CN;split
 ·simp
 ·rename_i h
  have h':k.toNat=1∨k.toNat=2∨k.toNat=3∨k.toNat=4∨k.toNat=5∨k.toNat=6∨k.toNat=7∨k.toNat=8∨k.toNat=9∨k.toNat=10∨k.toNat=11∨k.toNat=12∨k.toNat=13∨k.toNat=14:=zD
  rcases h' with h | h | h | h | h | h | h | h | h | h | h | h | h | h<;>rw [h]<;>decide
theorem Pb(k:Int):AE k 32=(decide (k=2) || decide (k=9)):=by
 unfold AE CN;split
 ·have h1:decide (k=2)=false:=Ad zD
  have h2:decide (k=9)=false:=Ad zD
  rw[h1,h2];decide
 ·rename_i h
  have h':k=1∨k=2∨k=3∨k=4∨k=5∨k=6∨k=7∨k=8∨k=9∨k=10∨k=11∨k=12∨k=13∨k=14:=zD
  rcases h' with h | h | h | h | h | h | h | h | h | h | h | h | h | h<;>subst h<;>decide
end Go.Bs
namespace Go.Proofs.YtlbffbkbkajciaaGreat
open Go.RowKit Go.Bs Go.Maps
def tlR(x:Int):Bool:=decide (x≤4611686018427387904)
def Rs.tl(B:List UInt8)(s:Rs):Rs × Nat:=if (s.num B).1.k=0 then (if tlR ((s.num B).2:Int)=true then s.num B else ((s.num B).1.fail 3 s.p,0)) else ((s.num B).1,0)
def Rs.Cp(B:List UInt8):Nat→Rs→List Int→Rs × List Int
  | 0,s,out=>(s,out)
  | n+1,s,out=>
    if (s.num B).1.k=0 then
      (if out≠[]∧18446744073709551615-out.getLastD 0≤((s.num B).2:Int) then ((s.num B).1.fail 13 s.p,[])
       else Rs.Cp B n (s.num B).1 (out++[if out=[] then ((s.num B).2:Int) else ((s.num B).2:Int)+(out.getLastD 0+1)]))
    else ((s.num B).1,[])
def Bk:Ix:=⟨0,0,0⟩
def Rs.seal_(B:List UInt8)(s:Rs):Rs × Ix:=
 let e:=s.ep B
 let n:=e.1.most B 4294967295
 let t:=n.1.tl B
 if t.1.k=0 then (t.1,⟨(e.2:Int),(n.2:Int),(t.2:Int)⟩) else (t.1,Bk)
def Rs.many(B:List UInt8)(s:Rs)(m:Int):Rs × Nat:=(if (s.int B m).2=0 then (s.int B m).1.fail 3 s.p else (s.int B m).1,(s.int B m).2)
def Rs.DC(B:List UInt8)(s:Rs)(others:List (List Int)):Rs × List Int:=
 let e:=s.many B 8
 let f:=Rs.Cp B e.2 e.1 []
 if f.1.k=0 then
  (if 4294967295<f.2.getLastD 0 then (f.1.fail 3 e.1.p,f.2) else if Br f.2 others=true then f else (f.1.fail 13 e.1.p,f.2))
 else (f.1,[])
def Rs.C8(B:List UInt8):Nat→Rs→List (List Int)→Rs × List (List Int)
 | 0,s,out=>(s,out)
 | n+1,s,out=>if (s.DC B out).1.k=0 then Rs.C8 B n (s.DC B out).1 (out++[(s.DC B out).2]) else ((s.DC B out).1,[])
def Dq:BZ:=⟨0,0,[]⟩
def Rs.span(B:List UInt8)(s:Rs)(lo:Int):Rs × Nat:=
 let s0:=if 4611686018427387904<lo then s.fail 3 s.p else s
 let d:=s0.num B
 (if 4611686018427387904-min lo 4611686018427387904≤(d.2:Int) then d.1.fail 3 s.p else d.1,d.2)
def Rs.AY(B:List UInt8)(s:Rs)(lo:Int):Rs × BZ:=
 let d:=s.span B lo
 let k:=d.1.many B 8
 let u:=Rs.C8 B k.2 k.1 []
 if u.1.k=0 then (u.1,⟨lo,lo+d.2+1,u.2⟩) else (u.1,Dq)
def Rs.Cv(B:List UInt8):Nat→Rs→Int→List BZ→Rs × Int × List BZ
 | 0,s,lo,out=>(s,lo,out)
 | n+1,s,lo,out=>if (s.AY B lo).1.k=0 then Rs.Cv B n (s.AY B lo).1 (s.AY B lo).2.hi (out++[(s.AY B lo).2]) else ((s.AY B lo).1,0,[])
def Bi:Ei:=⟨0,[]⟩
def Rs.C9(B:List UInt8)(s:Rs):Rs × Ei:=
 let e:=s.ep B
 let i:=e.1.many B 64
 let u:=Rs.Cv B i.2 i.1 0 []
 let v:=if u.2.1=4611686018427387904 then u.1 else u.1.fail 3 u.1.p
 if v.k=0 then (v,⟨(e.2:Int),u.2.2⟩) else (v,Bi)
theorem Mx(x:Int)(w:World):Calls Tryz.prog 255 #[.int .u64 x] w fun r w'=>r=.returned (.bool (tlR x))∧w=w':=by
 go_enter Tryz.func255,Tryz.ntmps255
 go_wp2_with fail;go_ret;exact⟨rfl,rfl⟩
theorem J9(w:World){g:Nat}{B:List UInt8}{a:Option Addr}{s:Rs}(h:AQ w g B a s)(hB:B.length≤1000000000):
  Calls Tryz.prog 231 #[.pointer (some ⟨g,0,none⟩),.func (Fn.func 255) #[] #[]] w fun r w'=>r=.returned (.int .u64 ((s.tl B).2:Int))∧Az w g B a (s.tl B).1 w':=by
 have HAT:=hid (Bz w h)
 have HVR:=hid (Cu w h zD)
 have hxb:=Rs.Fh (B:=B) (s:=s)
 have HIN:=hid (CF.refl h)
 unfold Rs.tl;generalize s.num B=R at*
 obtain⟨st1,x⟩:=R
 dsimp only at*;have HRT:=hid (fun (W:World)=>Mx (x:Int) W)
 have HBAD:=hid hxb
 clear h hxb;by_cases hk1:st1.k=0
 ·rw[Al hk1]
  by_cases hr:tlR (x:Int)=true
  ·rw[Al hr]
   rw[hr] at HRT
   have HK:Hid (decide (st1.k=0)=true):=hid (Ae hk1)
   clear hk1 hr;go_enter Tryz.func231,Tryz.ntmps231
   go_wp2_with fail;refine HAT.out.mono ?_
   rintro r w2 ⟨rfl,rfl⟩;go_wp2_with fail;refine HVR.out.mono ?_
   rintro r w3 ⟨rfl,hst3⟩;have HIN3:=hid (HIN.out.step hst3)
   clear hst3;go_wp2_with fail;refine (HRT.out w3).mono ?_
   rintro r w3' ⟨rfl,rfl⟩;go_wp2_with fail;refine ((by have:=AA w3 HIN3.out.rd;rw[HK.out] at this;exact this:Calls Tryz.prog 44 #[.pointer (some ⟨g,0,none⟩)] w3 fun r w'=>r=.returned (.bool true)∧Below w3.heap.size w3 w')).mono ?_
   rintro r w5 ⟨rfl,hb5⟩;have HE:=hid (HIN3.out.to.then hb5)
   go_wp2;go_ret;exact⟨rfl,HE.out⟩
  ·rw[Ak hr]
   rw[Bool.eq_false_iff.2 hr] at HRT
   have hfk:(st1.fail 3 s.p).k≠0:=Rs.By zD
   clear hk1 hr;go_enter Tryz.func231,Tryz.ntmps231
   go_wp2_with fail;refine HAT.out.mono ?_
   rintro r w2 ⟨rfl,rfl⟩;go_wp2_with fail;refine HVR.out.mono ?_
   rintro r w3 ⟨rfl,hst3⟩;have HIN3:=hid (HIN.out.step hst3)
   clear hst3;go_wp2_with fail;refine (HRT.out w3).mono ?_
   rintro r w3' ⟨rfl,rfl⟩;go_wp2_with fail;refine (Bj w3 HIN3.out.rd 3 (s.p:Int) zD).mono ?_
   rintro r w4 ⟨rfl,hst4⟩;have HIN4:=hid (HIN3.out.step hst4)
   have hg:=AA w4 HIN4.out.rd
   rw[Ad hfk] at hg
   have HG:=hid hg
   clear hst4 hg hfk;go_wp2_with fail;refine HG.out.mono ?_
   rintro r w5 ⟨rfl,hb5⟩;have HE:=hid (HIN4.out.to.then hb5)
   go_wp2;go_ret;exact⟨rfl,HE.out⟩
 ·rw[Ak hk1]
  have hx0:=HBAD.out hk1
  subst hx0;have hfk:st1.k≠0:=hk1
  have hfid:st1.fail 3 s.p=st1:=Rs.Bc hk1
  rw[show tlR ((0:Nat):Int)=true from zS] at HRT
  clear hk1;go_enter Tryz.func231,Tryz.ntmps231
  go_wp2_with fail;refine HAT.out.mono ?_
  rintro r w2 ⟨rfl,rfl⟩;go_wp2_with fail;refine HVR.out.mono ?_
  rintro r w3 ⟨rfl,hst3⟩;have HIN3:=hid (HIN.out.step hst3)
  clear hst3;go_wp2_with fail;refine (HRT.out w3).mono ?_
  rintro r w3' ⟨rfl,rfl⟩;go_wp2_with fail;refine ((by have:=AA w3 HIN3.out.rd;rw[Ad hfk] at this;exact this:Calls Tryz.prog 44 #[.pointer (some ⟨g,0,none⟩)] w3 fun r w'=>r=.returned (.bool false)∧Below w3.heap.size w3 w')).mono ?_
  rintro r w5 ⟨rfl,hb5⟩;have HE:=hid (HIN3.out.to.then hb5)
  clear hfk hfid;go_wp2;go_ret;exact⟨rfl,HE.out⟩
theorem JM(w:World){g:Nat}{B:List UInt8}{a:Option Addr}{s:Rs}(h:AQ w g B a s)(hB:B.length≤1000000000):
  Calls Tryz.prog 235 #[.pointer (some ⟨g,0,none⟩)] w fun r w'=>r=.returned (.int .u64 ((s.tl B).2:Int))∧Az w g B a (s.tl B).1 w':=by
 have HR:=hid (J9 w h hB)
 generalize s.tl B=R at*
 clear h;go_enter Tryz.func235,Tryz.ntmps235
 go_wp2_with fail;refine HR.out.mono ?_
 rintro r w1 ⟨rfl,hst⟩;have HST:=hid hst
 clear hst;go_wp2;go_ret;exact⟨rfl,HST.out⟩
theorem PN(w:World)(a:Option Addr)(c:Nat)(B:List UInt8)(hl:Ah.r (·<w.heap.size) w [.slice a B.length c] B)(s:Rs)(hs:s.ok B.length)(hB:B.length≤1000000000000):
  Calls Tryz.prog 121 #[CV a B.length c s,.int .i64 3] w fun r w'=>r=.returned (.tuple #[CV a B.length c (s.tl B).1,.int .u64 ((s.tl B).2:Int)])∧Below w.heap.size w w':=by
 have hR:=hid (fun (W:World) (hW:Below w.heap.size w W)=>CA W a c B (lift hl hW) s hs hB)
 have hF:=hid (fun (W:World) (t:Rs)=>Bg W a B.length c t 3 s.p zD)
 unfold Rs.tl;generalize s.num B=N at*
 obtain⟨s1,x⟩:=N
 dsimp only at*;clear hl hs;unfold CV at*;have hx0:(0:Int)≤(x:Int):=zD
 by_cases hk:s1.k=0
 ·rw[Al hk]
  have d0:(s1.k !=(0:Int))=false:=zA6
  clear hk;by_cases he:tlR (x:Int)=true
  ·rw[Al he]
   have d1:decide ((4611686018427387904:Int)<(x:Int))=false:=by simp only[tlR,AF] at he;exact Ad zD
   clear he hF;go_enter Tryz.func121,Tryz.ntmps121
   go_wp2_with fail;refine (hR.out _ zA).mono ?_
   rintro r w1 ⟨rfl,hb⟩;have B0:Blk w1 w.heap.size 60 #[.slice a B.length c,.int .i64 (s.p:Int),.int .i64 s.k,.int .i64 s.f]:=Blk.later zB hb
   have B1:Blk w1 (w.heap.size+1) 60 #[.slice none 0 0,.int .i64 0,.int .i64 0,.int .i64 0]:=Blk.later zB hb
   have hbw:Below w.heap.size w w1:=zA
   obtain⟨x0,x1,x2,x3,f0,f1,f2,f3,l0⟩:=Ap B0
   obtain⟨y0,y1,y2,y3,g0,g1,g2,g3,l1⟩:=Ap B1
   clear hb;go_wp2;refine Ag (v:=.tuple #[.agg #[.slice a B.length c,.int .i64 (s1.p:Int),.int .i64 s1.k,.int .i64 s1.f],.int .u64 (x:Int)]) zY rfl ⟨rfl,zA⟩
  ·rw[Ak he]
   have d1:decide ((4611686018427387904:Int)<(x:Int))=true:=by simp only[tlR,AF] at he;exact Ae zD
   have HF:=hid (fun (W:World)=>hF.out W s1)
   clear he hF;dsimp only;generalize s1.fail 3 s.p=s2 at*
   go_enter Tryz.func121,Tryz.ntmps121
   go_wp2_with fail;refine (hR.out _ zA).mono ?_
   rintro r w1 ⟨rfl,hb⟩;have B0:Blk w1 w.heap.size 60 #[.slice a B.length c,.int .i64 (s.p:Int),.int .i64 s.k,.int .i64 s.f]:=Blk.later zB hb
   have B1:Blk w1 (w.heap.size+1) 60 #[.slice none 0 0,.int .i64 0,.int .i64 0,.int .i64 0]:=Blk.later zB hb
   have hbw:Below w.heap.size w w1:=zA
   obtain⟨x0,x1,x2,x3,f0,f1,f2,f3,l0⟩:=Ap B0
   obtain⟨y0,y1,y2,y3,g0,g1,g2,g3,l1⟩:=Ap B1
   clear hb;go_wp2_with fail;refine (HF.out _).mono ?_
   rintro r w3 ⟨rfl,hb3⟩;have B3:Blk w3 (w.heap.size+1) 60 #[.slice none 0 0,.int .i64 0,.int .i64 0,.int .i64 0]:=Blk.later (B1.alloc _) hb3
   have hbw3:Below w.heap.size w w3:=zA
   obtain⟨y0,y1,y2,y3,g0,g1,g2,g3,l1⟩:=Ap B3
   clear hb3;go_wp2;refine Ag (v:=.tuple #[.agg #[.slice a B.length c,.int .i64 (s2.p:Int),.int .i64 s2.k,.int .i64 s2.f],.int .u64 0]) zY rfl ⟨rfl,zA⟩
 ·rw[Ak hk]
  have d0:(s1.k !=(0:Int))=true:=zA6
  clear hk hF;dsimp only;go_enter Tryz.func121,Tryz.ntmps121
  go_wp2_with fail;refine (hR.out _ zA).mono ?_
  rintro r w1 ⟨rfl,hb⟩;have B0:Blk w1 w.heap.size 60 #[.slice a B.length c,.int .i64 (s.p:Int),.int .i64 s.k,.int .i64 s.f]:=Blk.later zB hb
  have B1:Blk w1 (w.heap.size+1) 60 #[.slice none 0 0,.int .i64 0,.int .i64 0,.int .i64 0]:=Blk.later zB hb
  have hbw:Below w.heap.size w w1:=zA
  obtain⟨x0,x1,x2,x3,f0,f1,f2,f3,l0⟩:=Ap B0
  obtain⟨y0,y1,y2,y3,g0,g1,g2,g3,l1⟩:=Ap B1
  clear hb;go_wp2;refine Ag (v:=.tuple #[.agg #[.slice a B.length c,.int .i64 (s1.p:Int),.int .i64 s1.k,.int .i64 s1.f],.int .u64 0]) zY rfl ⟨rfl,zA⟩
def Pw:Option Int→List Int→List Int
 | _,[]=>[]
 | p,x::l=>(match p with | none=>x | some q=>x-q-1)::Pw (some x) l
def RK(l:List Int):List UInt8:=Ho (Pw none l)
def Jq(l:List Int):List UInt8:=A1 l.length++RK l
def Rk(l:List (List Int)):List UInt8:=(l.map Jq).flatten
def Ja(s:BZ):List UInt8:=A1 (s.hi-s.lo-1).toNat++A1 s.sets.length++Rk s.sets
def LM(l:List BZ):List UInt8:=(l.map Ja).flatten
def JA(p:Ei):List UInt8:=A1 p.epoch.toNat++A1 p.stripes.length++LM p.stripes
def Js(s:Ix):List UInt8:=A1 s.epoch.toNat++A1 s.node.toNat++A1 s.tail.toNat
def Bx(h:Bool)(b:List UInt8):List UInt8:=if h then b else []
def I4(m:Msg):List UInt8:=
 Bx (AE m.kind 1) (A1 m.pos.toNat)++Bx (AE m.kind 2) (A1 m.count.toNat)++Bx (AE m.kind 4) [UInt8.ofNat m.state.toNat]++
 Bx (AE m.kind 8) (Jq m.streams)++Bx (AE m.kind 16) (FK m.pos m.links)++Bx (BJ m.kind m.state) (Cw m.data)++
 Bx (AE m.kind 64) (Js m.sea)++Bx (AE m.kind 128) (JA m.proj)
theorem LI:∀(p:Option Int) (l:List Int),(Pw p l).length=l.length
 | _,[]=>rfl
 | p,x::l=>by simp only[Pw,Bw,LI _ l]
theorem Px(l:List Int):(RK l).length≤10*l.length:=by
 have:=KA (Pw none l)
 rw[LI] at this
 exact this
theorem LV(l:List Int):(Jq l).length≤10+10*l.length:=by
 unfold Jq;have:=Px l
 have:=(Bm l.length).1
 rw[Ar];omega
theorem KM{α:Type}(f:α→List UInt8)(l:List α)(b:Nat)(h:∀x∈l,(f x).length≤b):(l.map f).flatten.length≤b*l.length:=by
 induction l with
 | nil=>simp
 | cons x l ih=>
  have h1:=h x zR
  have h2:=ih fun y hy=>h y (by simp[hy])
  simp only[List.map_cons,List.flatten_cons,Ar,Bw,Nat.mul_add,DB]
  omega
theorem LU(L:List (List Int)):∀n i,Bh L n=true→i<n→FW L i=true
 | 0,i,_,h=>by omega
 | n+1,i,h,hi=>by
  simp only[Bh,AD] at h
  by_cases hn:i=n
  ·rw[hn];exact h.2
  ·exact LU L n i h.1 zD
theorem FO{α:Type}(l:List α)(i:Nat)(d:α)(h:i<l.length):l.getD i d=l[i]:=by
 rw[List.getD_eq_getElem?_getD,AH h];rfl
theorem OQ{L:List (List Int)}(h:Bh L L.length=true)(i:Nat)(hi:i<L.length):CX L[i]=true:=by
 have:=LU L _ i h hi
 simp only[FW,AD,FO L i [] hi] at this
 exact this.1
theorem MY{s:BZ}(h:Db s=true):(Ja s).length≤740:=by
 simp only[Db,AD,AF] at h
 have h1:=(Bm (s.hi-s.lo-1).toNat).1
 have h2:=(Bm s.sets.length).1
 have h3:=KM Jq s.sets 90 fun x hx=>by
  obtain⟨i,hi,rfl⟩:=List.getElem_of_mem hx
  have:=OQ h.2 i hi
  simp only[CX,AD,AF] at this
  have:=LV s.sets[i]
  omega
 unfold Ja Rk;simp only[Ar]
 omega
theorem KR:∀(l:List BZ) (p:Int),Fp p l=true→∀s∈l,Db s=true
 | [],p,_,s,hs=>by simp at hs
 | x::l,p,h,s,hs=>by
  simp only[Fp,AD] at h
  rcases List.mem_cons.1 hs with rfl | hs
  ·exact h.2.1
  ·exact KR l _ h.2.2 s hs
theorem PV{p:Ei}(h:DI p=true):(JA p).length≤47380:=by
 simp only[DI,AD,AF] at h
 have h1:=(Bm p.epoch.toNat).1
 have h2:=(Bm p.stripes.length).1
 have h3:=KM Ja p.stripes 740 fun x hx=>MY (KR _ _ h.2.2 x hx)
 unfold JA LM;simp only[Ar]
 omega
theorem PI(s:Ix):(Js s).length≤30:=by
 have h1:=(Bm s.epoch.toNat).1
 have h2:=(Bm s.node.toNat).1
 have h3:=(Bm s.tail.toNat).1
 unfold Js;simp only[Ar]
 omega
theorem Et(h:Bool)(b:List UInt8)(n:Nat)(hb:h=true→b.length≤n):(Bx h b).length≤n:=by
 cases h
 ·exact Am _
 ·exact hb rfl
theorem Mg(pos:Int)(l:List Bv)(hR:Df pos l=true):(FK pos l).length≤830:=by
 have h1:=Ls pos l hR
 simp only[Df,AD,AF] at hR
 have h2:=(Bm l.length).1
 unfold FK;rw[Ar];omega
theorem Dn{h r z:Bool}(hw:BG h r z=true)(hh:h=true):r=true:=by subst hh;exact hw
structure Sg(m:Msg):Prop where
 kind:1≤m.kind∧m.kind≤14
 pos:AE m.kind 1=true→poR m.pos=true
 count:AE m.kind 2=true→1≤m.count∧m.count≤65536
 state:AE m.kind 4=true→1≤m.state∧m.state≤C4 m.kind
 streams:AE m.kind 8=true→m.streams.length≤16∧BQ m.streams=true
 links:AE m.kind 16=true→Df m.pos m.links=true
 seal_:AE m.kind 64=true→Gd m.sea=true
 proj:AE m.kind 128=true→DI m.proj=true
 data:m.data.length≤1048576
theorem JD{m:Msg}(h:J4 m=true):Sg m:=by
 simp only[J4,AD,AF] at h
 obtain⟨h1,h2,h3,h4,h5,h6,h7,h8,h9⟩:=h
 refine⟨h1,fun e=>Dn h2 e,fun e=>Cz (Dn h3 e),fun e=>Cz (Dn h4 e),fun e=> ?_,fun e=>Dn h6 e,fun e=>Dn h7 e,fun e=>Dn h8 e,?_⟩
 ·have:=Dn h5 e
  simp only[AD,AF] at this
  exact this
 ·simp only[CG,AD,AF] at h9
  omega
theorem Qi{m:Msg}(h:J4 m=true):(I4 m).length≤49000+m.data.length:=by
 have H:=JD h
 have h1:=Et (AE m.kind 1) (A1 m.pos.toNat) 10 fun _=>(Bm _).1
 have h2:=Et (AE m.kind 2) (A1 m.count.toNat) 10 fun _=>(Bm _).1
 have h3:=Et (AE m.kind 4) [UInt8.ofNat m.state.toNat] 1 fun _=>by simp
 have h4:=Et (AE m.kind 8) (Jq m.streams) 170 fun e=>by have:=LV m.streams;have:=(H.streams e).1;omega
 have h5:=Et (AE m.kind 16) (FK m.pos m.links) 830 fun e=>Mg _ _ (H.links e)
 have h6:=Et (BJ m.kind m.state) (Cw m.data) (11+m.data.length) fun e=>by have:=JV m.data;have:=(Bm m.data.length).1;omega
 have h7:=Et (AE m.kind 64) (Js m.sea) 30 fun e=>PI _
 have h8:=Et (AE m.kind 128) (JA m.proj) 47380 fun e=>PV (H.proj e)
 unfold I4;simp only[Ar]
 omega
theorem Kd(l:List Int)(a:Option Addr)(n c:Nat)(w:World)(hl:AK.r (·<w.heap.size) w [.slice a n c] l):
  Calls Tryz.prog 149 #[.slice a n c] w fun r w'=>r=.returned (.bool (BQ l))∧Below w.heap.size w w':=by
 obtain⟨rfl,hm,_,_⟩:=AW hl
 have HL:=hid hl;clear hl
 go_enter Tryz.func149,Tryz.ntmps149
 go_wp2;go_loopw [3] (fun i wr=>∃m:Nat,(m≤l.length∧(m=0∨m<l.length))∧i=.int .i64 ((m:Int)+1)∧Hid (BQ l=Dw l (m+1))∧Below w.heap.size w wr) (fun i _=>l.length+1-(intOf i).toNat)
 case atStart=>exact ⟨0,⟨Am _,.inl rfl⟩,rfl,hid (IH l).symm,Below.refl _ _⟩
 case round=>
  obtain⟨m,hk,rfl,hf,hb⟩:=hrel
  by_cases hlt:m+1<l.length
  ·obtain⟨b,o,hA,hbb,x0,hx0,hx1⟩:=DP (lift HL.out hb) hlt
   obtain⟨b',o',hA',hbb',y0,hy0,hy1⟩:=DP (lift HL.out hb) (show m<l.length by omega)
   subst hA;simp only[Cc,Gy] at hA'
   obtain⟨rfl,rfl,_⟩:=hA'
   have hst:=hid (Hm l m hlt)
   have k1:(0:Int)≤(m:Int)+1-1:=zD
   have k2:(m:Int)+1<(l.length:Int):=zD
   have k3:(m:Int)<(l.length:Int):=zD
   have X0:=fun s:Ay wr=>s.cell x0
   have Y0:=fun s:Ay wr=>s.cell y0
   clear x0 y0;generalize l[m+1]=x at*
   generalize l[m]=y at*
   by_cases hge:x≤y
   ·have d1:decide (x≤y)=true:=Ae hge
    have hff:Hid (BQ l=false):=hid (by rw[hf.out,hst.out,Ad (by omega)];rfl)
    clear hge;go_wp2_with fail;refine Aw zJ zJ ?_
    repeat (go_big_quiet_step (fail))
    refine AN ?_
    rintro W5 ⟨⟨W5',hb5⟩,rfl⟩;go_wp2;go_ret;exact⟨zP,Af hb5 hb⟩
   ·have d1:decide (x≤y)=false:=Ad hge
    have hst':Hid (Dw l (m+1)=Dw l (m+2)):=hid (by rw[hst.out,Ae (by omega)];rfl)
    clear hge;go_wp2_with fail;refine Aw zJ zJ ?_
    repeat (go_big_quiet_step (fail))
    refine AN ?_
    rintro W5 ⟨⟨W5',hb5⟩,rfl⟩;go_wp2;go_roundw
    case rel=>exact ⟨m+1,⟨zD,zD⟩,ZB,hid zAz,Af hb5 hb⟩
    case measure=>(simp[intOf];try omega)
  ·have k2:¬((m:Int)+1<(l.length:Int)):=by omega
   have d2:decide ((m:Int)+1<(l.length:Int))=false:=Ad k2
   have hff:Hid (BQ l=true):=hid (by
    rcases C6 l.length with h0 | h0
    ·rw[AG h0];rfl
    ·rw[hf.out,show m+1=l.length by omega];exact II l)
   go_wp2;go_ret;exact⟨zP,hb⟩
theorem M6(s:Ix)(h0:inU s.epoch)(w:World):Calls Tryz.prog 86 #[.agg #[.int .u64 s.epoch,.int .u64 s.node,.int .u64 s.tail]] w fun r w'=>r=.returned (.bool (Gd s))∧Below w.heap.size w w':=by
 have HE:=hid (fun (W:World)=>Gt s.epoch W)
 have hsr:Gd s=(epR s.epoch&&(decide (s.node≤4294967295)&&decide (s.tail≤4611686018427387904))):=rfl
 obtain⟨e,n,t⟩:=s
 dsimp only at*;generalize epR e=E at*
 have HS:=hid hsr
 generalize Gd ⟨e,n,t⟩=ss at*
 clear hsr h0;cases E
 ·have hf:Hid (ss=false):=hid (by rw[HS.out];rfl)
  go_enter Tryz.func86,Tryz.ntmps86
  go_wp2_with fail;refine (HE.out _).mono ?_
  rintro r w1 ⟨rfl,rfl⟩;go_wp2_with fail;go_ret;exact⟨zB4,zC⟩
 ·by_cases hn:n≤4294967295
  ·have hf:Hid (ss=decide (t≤4611686018427387904)):=hid (by rw[HS.out,Ae hn];rfl)
   have d1:decide (n≤4294967295)=true:=Ae hn
   clear hn;go_enter Tryz.func86,Tryz.ntmps86
   go_wp2_with fail;refine (HE.out _).mono ?_
   rintro r w1 ⟨rfl,rfl⟩;go_wp2_with fail;go_ret;exact⟨zB4,zC⟩
  ·have hf:Hid (ss=false):=hid (by rw[HS.out,Ad hn];rfl)
   have d1:decide (n≤4294967295)=false:=Ad hn
   clear hn;go_enter Tryz.func86,Tryz.ntmps86
   go_wp2_with fail;refine (HE.out _).mono ?_
   rintro r w1 ⟨rfl,rfl⟩;go_wp2_with fail;go_ret;exact⟨zB4,zC⟩
theorem KJ(l:List Int)(x:Int)(k:Nat)(h:k<l.length):(l.drop k).contains x=(decide (l[k]=x) || (l.drop (k+1)).contains x):=by
 rw[AL h,List.contains_cons]
 congr 1
 rw[Ea,beq_iff_eq,decide_eq_true_iff]
 exact eq_comm
theorem OX(l:List Int)(x:Int)(a:Option Addr)(n c:Nat)(w:World)(hl:AK.r (·<w.heap.size) w [.slice a n c] l):
  Calls Tryz.prog 251 #[.slice a n c,.int .u64 x] w fun r w'=>r=.returned (.bool (l.contains x))∧Below w.heap.size w w':=by
 obtain⟨rfl,hm,_,_⟩:=AW hl
 have HL:=hid hl;clear hl
 go_enter Tryz.func251,Tryz.ntmps251
 go_wp2;go_loopw [5] (fun i wr=>∃k:Nat,k≤l.length∧i=.int .i64 k∧Hid (l.contains x=(l.drop k).contains x)∧Below w.heap.size w wr) (fun i _=>l.length-(intOf i).toNat)
 case atStart=>exact ⟨0,Am _,rfl,hid rfl,Below.refl _ _⟩
 case round=>
  obtain⟨k,hk,rfl,hf,hb⟩:=hrel
  by_cases hlt:k<l.length
  ·obtain⟨b,o,hA,hbb,x0,hx0,hx1⟩:=DP (lift HL.out hb) hlt
   subst hA;have hst:=hid (KJ l x k hlt)
   have i1:(k:Int)<(l.length:Int):=zD
   have d1:decide ((k:Int)<(l.length:Int))=true:=Ae i1
   generalize l[k]=y at*
   by_cases he:y=x
   ·have d2:(y==x)=true:=beq_iff_eq.2 he
    have hff:Hid (l.contains x=true):=hid (by rw[hf.out,hst.out,Ae he];rfl)
    clear he;go_wp2_with fail;go_ret;exact⟨zP,hb⟩
   ·have d2:(y==x)=false:=beq_eq_false_iff_ne.2 he
    have hff:Hid (l.contains x=(l.drop (k+1)).contains x):=hid (by rw[hf.out,hst.out,Ad he];rfl)
    clear he;go_wp2_with fail;go_roundw
    case rel=>exact ⟨k+1,zD,ZB,hff,hb⟩
    case measure=>(simp[intOf];try omega)
  ·obtain rfl:k=l.length:=by omega
   have d1:decide ((l.length:Int)<(l.length:Int))=false:=Ad zD
   have hff:Hid (l.contains x=false):=hid zA1
   go_wp2_with fail;go_ret;exact⟨zP,hb⟩
theorem K6(l:List Int)(x:Int)(a:Option Addr)(n c:Nat)(w:World)(hl:AK.r (·<w.heap.size) w [.slice a n c] l):
  Calls Tryz.prog 269 #[.slice a n c,.int .u64 x] w fun r w'=>(∃j:Int,r=.returned (.int .i64 j)∧decide (0≤j)=l.contains x)∧Below w.heap.size w w':=by
 obtain⟨rfl,hm,_,_⟩:=AW hl
 have HL:=hid hl;clear hl
 go_enter Tryz.func269,Tryz.ntmps269
 go_wp2;go_loopw [8] (fun i wr=>∃k:Nat,k≤l.length∧i=.int .i64 k∧Hid (l.contains x=(l.drop k).contains x)∧Below w.heap.size w wr) (fun i _=>l.length-(intOf i).toNat)
 case atStart=>exact ⟨0,Am _,rfl,hid rfl,Below.refl _ _⟩
 case round=>
  obtain⟨k,hk,rfl,hf,hb⟩:=hrel
  by_cases hlt:k<l.length
  ·obtain⟨b,o,hA,hbb,x0,hx0,hx1⟩:=DP (lift HL.out hb) hlt
   subst hA;have hst:=hid (KJ l x k hlt)
   have i1:(k:Int)<(l.length:Int):=zD
   have d1:decide ((k:Int)<(l.length:Int))=true:=Ae i1
   generalize l[k]=y at*
   by_cases he:y=x
   ·have d2:(x==y)=true:=beq_iff_eq.2 he.symm
    have hff:Hid (l.contains x=true):=hid (by rw[hf.out,hst.out,Ae he];rfl)
    clear he;go_wp2_with fail;go_ret;exact⟨⟨(k:Int),rfl,by rw[hff.out];exact Ae (by omega)⟩,hb⟩
   ·have d2:(x==y)=false:=beq_eq_false_iff_ne.2 (fun e=>he e.symm)
    have hff:Hid (l.contains x=(l.drop (k+1)).contains x):=hid (by rw[hf.out,hst.out,Ad he];rfl)
    clear he;go_wp2_with fail;go_roundw
    case rel=>exact ⟨k+1,zD,ZB,hff,hb⟩
    case measure=>(simp[intOf];try omega)
  ·obtain rfl:k=l.length:=by omega
   have d1:decide ((l.length:Int)<(l.length:Int))=false:=Ad zD
   have hff:Hid (l.contains x=false):=hid zA1
   go_wp2_with fail;go_ret;exact⟨⟨-1,rfl,zP⟩,hb⟩
theorem I3(l:List Int)(x:Int)(a:Option Addr)(n c:Nat)(w:World)(hl:AK.r (·<w.heap.size) w [.slice a n c] l):
  Calls Tryz.prog 250 #[.slice a n c,.int .u64 x] w fun r w'=>r=.returned (.bool (l.contains x))∧Below w.heap.size w w':=by
 have HI:=hid (K6 l x a n c w hl)
 obtain⟨rfl,hm,_,_⟩:=AW hl
 generalize l.contains x=hh at*
 clear hl;go_enter Tryz.func250,Tryz.ntmps250
 go_wp2_with fail;refine HI.out.mono ?_
 rintro r w1 ⟨⟨j,rfl,hj⟩,hb1⟩;have HJ:=hid hj
 go_wp2_with fail;go_ret;exact⟨by rw[←HJ.out];rfl,hb1⟩
theorem MN(l:List Int)(f:Int→Bool)(k:Nat)(h:k<l.length):(l.drop k).all f=(f l[k]&&(l.drop (k+1)).all f):=by
 rw[AL h,List.all_cons]
theorem JY(l:List Int)(o:List (List Int))(k:Nat)(h:k<o.length):Br l (o.drop k)=((l.all fun n=> !o[k].contains n)&&Br l (o.drop (k+1))):=by
 unfold Br;rw[AL h,List.all_cons]
theorem Da(l:List Int)(O:List (List Int))(a:Option Addr)(n c:Nat)(a':Option Addr)(n' c':Nat)(w:World)(hl:AK.r (·<w.heap.size) w [.slice a n c] l)(ho:CP.r (·<w.heap.size) w [.slice a' n' c'] O):
  Calls Tryz.prog 219 #[.slice a n c,.slice a' n' c'] w fun r w'=>r=.returned (.bool (Br l O))∧Below w.heap.size w w':=by
 obtain⟨rfl,hm,_,_⟩:=AW hl
 obtain⟨rfl,hm',_,_⟩:=AW ho
 have HL:=hid hl
 have HO:=hid ho
 clear hl ho;go_enter Tryz.func219,Tryz.ntmps219
 go_wp2_with fail;go_loopw [11] (fun i wr=>∃k:Nat,k≤O.length∧i=.int .i64 k∧Hid (Br l O=Br l (O.drop k))∧Below w.heap.size w wr) (fun i _=>O.length-(intOf i).toNat)
 case atStart=>exact ⟨0,Am _,rfl,hid rfl,Below.refl _ _⟩
 case round=>
  obtain⟨k,hk,rfl,hf,hb⟩:=hrel
  by_cases hlt:k<O.length
  ·obtain⟨b,o,hA,hbb,ak,ck,x0,xl⟩:=FC (lift HO.out hb) hlt
   subst hA;have hst:=hid (JY l O k hlt)
   have HX:=hid xl
   have HB:=hid hb
   have i1:(k:Int)<(O.length:Int):=zD
   have d1:decide ((k:Int)<(O.length:Int))=true:=Ae i1
   generalize O[k]=X at*
   clear xl hb;obtain⟨wo,hwo⟩:∃wo:World,wo=wr:=⟨_,rfl⟩
   subst hwo;go_wp2_with fail;go_loopw [17] (fun i wr=>∃j:Nat,j≤l.length∧i=.int .i64 j∧Hid ((l.all fun n=> !X.contains n)=(l.drop j).all fun n=> !X.contains n)∧Below wo.heap.size wo wr) (fun i _=>l.length-(intOf i).toNat)
   case atStart=>exact ⟨0,Am _,rfl,hid rfl,Below.refl _ _⟩
   case round=>
    obtain⟨j,hj,rfl,hg,hbj⟩:=hrel
    have hbw:=HB.out.trans (hbj.mono HB.out.size)
    have HBW:=hid hbw
    by_cases hjl:j<l.length
    ·obtain⟨b2,o2,hA2,hbb2,y0,hy0,hy1⟩:=DP (lift HL.out hbw) hjl
     subst hA2;have hsj:=hid (MN l (fun n=> !X.contains n) j hjl)
     have HCT:=hid (fun y=>I3 X y ak _ ck wr (lift HX.out hbj))
     have j1:(j:Int)<(l.length:Int):=zD
     have e1:decide ((j:Int)<(l.length:Int))=true:=Ae j1
     generalize l[j]=y at*
     have hct:=HCT.out y
     by_cases hc:X.contains y=true
     ·rw[hc] at hct
      have HC:=hid hct
      have hff:Hid (Br l O=false):=hid zBi
      clear hc hct hbw hbj HCT;go_wp2_with fail;refine HC.out.mono ?_
      rintro r w3 ⟨rfl,hb3⟩;have hbe:=Af hb3 HBW.out
      go_wp2_with fail;go_ret;exact⟨zP,hbe⟩
     ·have hc':=eq_false_of_ne_true hc
      rw[hc'] at hct
      have HC:=hid hct
      have hgg:Hid ((l.all fun n=> !X.contains n)=(l.drop (j+1)).all fun n=> !X.contains n):=hid zB2
      have HBJ:=hid hbj
      clear hc hc' hct hbw hbj HCT;go_wp2_with fail;refine HC.out.mono ?_
      rintro r w3 ⟨rfl,hb3⟩;have hbe:=Af hb3 HBJ.out
      go_wp2_with fail;go_roundw
      case rel=>exact ⟨j+1,zD,ZB,hgg,hbe⟩
      case measure=>(simp[intOf];try omega)
    ·obtain rfl:j=l.length:=by omega
     have e1:decide ((l.length:Int)<(l.length:Int))=false:=Ad zD
     have hff:Hid (Br l O=Br l (O.drop (k+1))):=hid zCq
     clear hbj hbw;go_wp2_with fail;go_roundw
     case rel=>exact ⟨k+1,zD,ZB,hff,HBW.out⟩
     case measure=>(simp[intOf];try omega)
  ·obtain rfl:k=O.length:=by omega
   have d1:decide ((O.length:Int)<(O.length:Int))=false:=Ad zD
   have hff:Hid (Br l O=true):=hid zA1
   go_wp2_with fail;go_ret;exact⟨zP,hb⟩
theorem Hy(l:List Int)(h:1≤l.length):l.getLastD 0=l[l.length-1]:=by
 rw[List.getLastD_eq_getLast?,List.getLast?_eq_getElem?,AH zD];rfl
theorem Eb(l:List Int)(a:Option Addr)(n c:Nat)(w:World)(hl:AK.r (·<w.heap.size) w [.slice a n c] l):
  Calls Tryz.prog 218 #[.slice a n c] w fun r w'=>r=.returned (.bool (CX l))∧Below w.heap.size w w':=by
 obtain⟨rfl,hm,_,_⟩:=AW hl
 have HR:=Kd l a _ c w hl
 have hnr:CX l=(decide (1≤l.length∧l.length≤8)&&(BQ l&&decide (l.getLastD 0≤4294967295))):=rfl
 by_cases h1:1≤l.length
 ·have d1:decide ((1:Int)≤(l.length:Int))=true:=Ae zD
  by_cases h2:l.length≤8
  ·have d2:decide ((l.length:Int)≤8)=true:=Ae zD
   rw[Ae (⟨h1,h2⟩:1≤l.length∧l.length≤8),Cd,Hy l h1] at hnr
   obtain⟨b,o,hA,hbb,x0,hx0,hx1⟩:=DP hl (i:=l.length-1) zD
   subst hA;obtain⟨m,hm⟩:∃m,l.length=m+1:=⟨l.length-1,zD⟩
   simp only[hm,Nat.add_sub_cancel] at hnr x0 hx0 hx1 HR d1 d2 ⊢
   have HNR:=hid hnr
   generalize l[m]'zD=y at*
   generalize BQ l=R at*
   generalize CX l=NR at*
   have q1:(0:Int)≤(m:Int)+1-1:=zD
   have HRR:=hid HR
   have hmm:m≤7:=zD
   clear hl HR hnr h1 h2 hm;cases R
   ·have hff:Hid (NR=false):=hid (by rw[HNR.out];rfl)
    go_enter Tryz.func218,Tryz.ntmps218
    go_wp2_with fail;refine HRR.out.mono ?_
    rintro r w1 ⟨rfl,hb1⟩;go_wp2_with fail;go_ret;exact⟨zP,hb1⟩
   ·have hff:Hid (NR=decide (y≤4294967295)):=hid (by rw[HNR.out];rfl)
    go_enter Tryz.func218,Tryz.ntmps218
    go_wp2_with fail;refine HRR.out.mono ?_
    rintro r w1 ⟨rfl,hb1⟩;have X0:=(hb1.cell (p:=⟨b,o+m,none⟩) hbb).trans x0
    clear x0;go_wp2_with fail;go_ret;exact⟨zP,hb1⟩
  ·have d2:decide ((l.length:Int)≤8)=false:=Ad zD
   have hff:Hid (CX l=false):=hid (by rw[hnr,Ad (fun h=>h2 h.2:¬(1≤l.length∧l.length≤8))];rfl)
   clear hl HR hnr h1 h2;go_enter Tryz.func218,Tryz.ntmps218
   go_wp2_with fail;go_ret;exact⟨zP,Below.refl _ _⟩
 ·have d1:decide ((1:Int)≤(l.length:Int))=false:=Ad zD
  have hff:Hid (CX l=false):=hid (by rw[hnr,Ad (fun h=>h1 h.1:¬(1≤l.length∧l.length≤8))];rfl)
  clear hl HR hnr h1;go_enter Tryz.func218,Tryz.ntmps218
  go_wp2_with fail;go_ret;exact⟨zP,Below.refl _ _⟩
theorem LZ(O:List (List Int))(q:Nat)(l:List Int)(a:Option Addr)(n c:Nat)(a':Option Addr)(n' c':Nat)(w:World)(ho:CP.r (·<w.heap.size) w [.slice a n c] O)(hl:AK.r (·<w.heap.size) w [.slice a' n' c'] l)(hq:q≤O.length):
  Calls Tryz.prog 221 #[.slice a n c,.int .i64 (q:Int),.slice a' n' c'] w fun r w'=>r=.returned (.bool (!Br l (O.take q)))∧Below w.heap.size w w':=by
 obtain⟨rfl,hm,_,_⟩:=AW ho
 obtain⟨rfl,hm',_,_⟩:=AW hl
 have HL:=hid hl
 have HO:=hid ho
 have hqt:(O.take q).length=q:=by rw[List.length_take];omega
 have HG:=hid (fun (k:Nat) (h:k<q)=>(by rw[List.getElem_take]:(O.take q)[k]'zD=O[k]'zD))
 obtain⟨Y,hY⟩:∃Y,O.take q=Y:=⟨_,rfl⟩
 simp only[hY] at HG hqt ⊢
 clear hl ho;go_enter Tryz.func221,Tryz.ntmps221
 go_wp2_with fail;go_loopw [7] (fun i wr=>∃k:Nat,k≤q∧i=.int .i64 k∧Hid (Br l Y=Br l (Y.drop k))∧Below w.heap.size w wr) (fun i _=>q-(intOf i).toNat)
 case atStart=>exact ⟨0,Am _,rfl,hid rfl,Below.refl _ _⟩
 case round=>
  obtain⟨k,hk,rfl,hf,hb⟩:=hrel
  by_cases hlt:k<q
  ·obtain⟨b,o,hA,hbb,ak,ck,x0,xl⟩:=FC (lift HO.out hb) (show k<O.length by omega)
   subst hA;have hst:=JY l Y k zD
   rw[HG.out k hlt] at hst
   have hst:=hid hst
   have HX:=hid xl
   have HB:=hid hb
   have hbl:b<wr.heap.size:=Dl _ _ x0
   have i1:(k:Int)<(q:Int):=zD
   have i2:(k:Int)<(O.length:Int):=zD
   have d1:decide ((k:Int)<(q:Int))=true:=Ae i1
   generalize O[k]'zD=X at*
   clear xl hb;obtain⟨wo,hwo⟩:∃wo:World,wo=wr:=⟨_,rfl⟩
   subst hwo;go_wp2_with fail;go_loopw [8] (fun i wr=>∃j:Nat,j≤l.length∧i=.int .i64 j∧Hid ((l.all fun n=> !X.contains n)=(l.drop j).all fun n=> !X.contains n)∧Below wo.heap.size wo wr) (fun i _=>l.length-(intOf i).toNat)
   case atStart=>exact ⟨0,Am _,rfl,hid rfl,Below.refl _ _⟩
   case round=>
    obtain⟨j,hj,rfl,hg,hbj⟩:=hrel
    have hbw:=HB.out.trans (hbj.mono HB.out.size)
    have HBW:=hid hbw
    by_cases hjl:j<l.length
    ·obtain⟨b2,o2,hA2,hbb2,y0,hy0,hy1⟩:=DP (lift HL.out hbw) hjl
     subst hA2;have hsj:=hid (MN l (fun n=> !X.contains n) j hjl)
     have HCT:=hid (fun y (W:World) (hW:Below wr.heap.size wr W)=>OX X y ak _ ck W (lift (lift HX.out hbj) hW))
     have j1:(j:Int)<(l.length:Int):=zD
     have e1:decide ((j:Int)<(l.length:Int))=true:=Ae j1
     have X0:=fun s:Ay wr=>s.cell ((hbj.cell (p:=⟨b,o+k,none⟩) hbl).trans x0)
     have Y0:=fun s:Ay wr=>s.cell y0
     clear y0;generalize l[j]=y at*
     have hct:=HCT.out y
     by_cases hc:X.contains y=true
     ·simp only[hc] at hct
      have HC:=hid hct
      have hff:Hid (Br l Y=false):=hid zBi
      clear hc hct hbw hbj HCT;go_wp2_with fail;refine Aw zJ zJ ?_
      repeat (go_big_quiet_step ((go_at_call 251;exact AZ (HC.out _ (Ay.below _)))))
      refine AN ?_
      rintro W5 ⟨⟨W5',hb5⟩,rfl⟩;have hbe:=Af hb5 HBW.out
      go_wp2_with fail;go_ret;exact⟨zP,hbe⟩
     ·have hc':=eq_false_of_ne_true hc
      simp only[hc'] at hct
      have HC:=hid hct
      have hgg:Hid ((l.all fun n=> !X.contains n)=(l.drop (j+1)).all fun n=> !X.contains n):=hid zB2
      have HBJ:=hid hbj
      clear hc hc' hct hbw hbj HCT;go_wp2_with fail;refine Aw zJ zJ ?_
      repeat (go_big_quiet_step ((go_at_call 251;exact AZ (HC.out _ (Ay.below _)))))
      refine AN ?_
      rintro W5 ⟨⟨W5',hb5⟩,rfl⟩;have hbe:=Af hb5 HBJ.out
      go_wp2_with fail;go_roundw
      case rel=>exact ⟨j+1,zD,ZB,hgg,hbe⟩
      case measure=>(simp[intOf];try omega)
    ·obtain rfl:j=l.length:=by omega
     have e1:decide ((l.length:Int)<(l.length:Int))=false:=Ad zD
     have hff:Hid (Br l Y=Br l (Y.drop (k+1))):=hid zCq
     clear hbj hbw;go_wp2_with fail;go_roundw
     case rel=>exact ⟨k+1,zD,ZB,hff,HBW.out⟩
     case measure=>(simp[intOf];try omega)
  ·obtain rfl:k=q:=by omega
   have d1:decide ((k:Int)<(k:Int))=false:=Ad zD
   have hff:Hid (Br l Y=true):=hid (by rw[hf.out,show k=Y.length by omega,List.drop_length];rfl)
   go_wp2_with fail;go_ret;exact⟨zP,hb⟩
theorem Kf{W:World}{base:Nat}{av:Option Addr}{cv m:Nat}{J:List Int}(h:W.ownsRow base 22 1 (.slice av J.length cv) J.length (Be J))(hx:∀x∈J,0≤x∧x≤18446744073709551615)(hm:J.length=m+1):∃b o,av=some ⟨b,o,none⟩∧W.cell? ⟨b,o+m,none⟩=some (.int .u64 (J.getLastD 0)):=by
 obtain⟨b,o,e,_,hc,_⟩:=DP (EX hx rfl h) (i:=m) zD
 refine⟨b,o,e,?_⟩
 rw[hc,Hy J zD]
 simp only[hm,Nat.add_sub_cancel]
theorem JG{J:List Int}(hx:∀x∈J,0≤x∧x≤18446744073709551615)(h:J≠[]):0≤J.getLastD 0∧J.getLastD 0≤18446744073709551615:=by
 have hl:1≤J.length:=by cases J<;>simp_all
 rw[Hy J hl]
 exact hx _ (CL _)
theorem LG(w:World){g:Nat}{B:List UInt8}{a:Option Addr}{s:Rs}(h:AQ w g B a s)(hB:B.length≤1000000000)(N:Nat)(hN:N≤1000):
  Calls Tryz.prog 190 #[.pointer (some ⟨g,0,none⟩),.int .i64 (N:Int)] w fun r w'=>∃v,r=.returned v∧AK.r (fun q=>w.heap.size≤q∧q<w'.heap.size) w' [v] (Rs.Cp B N s []).2∧Az w g B a (Rs.Cp B N s []).1 w':=by
 obtain⟨i0,hi,hz0,hz1,hz2⟩:=A8 Mp
 have hlt:=h.blk.lt
 have HIN:=hid (CF.refl h)
 have hmx:max (N:Int) 0=(N:Int):=zD
 have hmx2:(if (N:Int)<0 then (0:Int) else (N:Int))=(N:Int):=zAr
 clear h;go_enter Tryz.func190,Tryz.ntmps190
 go_wp2_with fail;go_loopw [5,12] (fun v i wr=>∃(J:List Int) (st:Rs),J.length≤N∧i=.int .i64 (J.length:Int)∧wr.ownsRow w.heap.size 22 1 v J.length (Be J)∧Hid (∀x∈J,0≤x∧x≤18446744073709551615)∧Hid (CF w wr g B a st)∧Hid (Rs.Cp B N s []=Rs.Cp B (N-J.length) st J)) (fun _ i _=>N-(intOf i).toNat)
 case atStart=>exact ⟨[],s,Am _,rfl,⟨rfl,.inl ⟨rfl,rfl⟩⟩,hid zR,HIN,hid rfl⟩
 case round=>
  obtain⟨J,st,hk,rfl,hown,hJb,hin,hsp⟩:=hrel
  obtain⟨av,cv,rfl⟩:=AP hown
  have hJ9:J.length≤1000:=zD
  have HJB:=hid hJb.out
  rcases Ba J.length N with hlt2 | hge
  ·have HAT:=hid (Bz wr hin.out.rd)
   have HVR:=hid (Cu wr hin.out.rd zD)
   have hx:=Rs.Ch (B:=B) (s:=st)
   have hxb:=Rs.Fh (B:=B) (s:=st)
   have hstep:Rs.Cp B (N-J.length) st J=(if (st.num B).1.k=0 then (if J≠[]∧18446744073709551615-J.getLastD 0≤((st.num B).2:Int) then ((st.num B).1.fail 13 st.p,[]) else Rs.Cp B (N-(J.length+1)) (st.num B).1 (J++[if J=[] then ((st.num B).2:Int) else ((st.num B).2:Int)+(J.getLastD 0+1)])) else ((st.num B).1,[])):=by
    rw[show N-J.length=(N-(J.length+1))+1 by omega];rfl
   have HO:=hid hown
   have i1:(J.length:Int)<(N:Int):=zD
   have d1:decide ((J.length:Int)<(N:Int))=true:=Ae i1
   have d1':decide (J.length<N)=true:=Ae hlt2
   generalize st.num B=R at*
   obtain⟨st1,x⟩:=R
   dsimp only at*;have HBAD:=hid hxb
   have hx0':(0:Int)≤(x:Int):=zD
   have hx1':(x:Int)≤18446744073709551615:=zD
   clear hown hxb;by_cases hnil:J=[]
   ·have dz:decide ((0:Int)<(J.length:Int))=false:=by rw[hnil];rfl
    have dz2:decide (0<J.length)=false:=by rw[hnil];rfl
    by_cases hk1:st1.k=0
    ·rw[Al hk1] at hstep
     have hk1':decide (st1.k=0)=true:=Ae hk1
     have HSP:Hid (Rs.Cp B N s []=Rs.Cp B (N-(J.length+1)) st1 (J++[(x:Int)])):=hid (hsp.out.trans zCo)
     clear hstep hsp hk1 hnil;go_wp2_with fail;refine HAT.out.mono ?_
     rintro r w2 ⟨rfl,rfl⟩;go_wp2_with fail;refine HVR.out.mono ?_
     rintro r w3 ⟨rfl,hst3⟩;have HIN3:=hid (hin.out.step hst3)
     have HO3:=hid (Eu HO.out hlt hst3.2)
     have hg:=AA w3 HIN3.out.rd
     rw[hk1'] at hg
     have HG:=hid hg
     clear hst3 hg;go_wp2_with fail;refine HG.out.mono ?_
     rintro r w4 ⟨rfl,hb4⟩;have HIN4:=hid (HIN3.out.step (Az.later HIN3.out.rd hb4))
     have HO4:=hid (AI HO3.out hb4)
     have hsz4:=HIN4.out.tch.size
     clear hb4;go_wp2_with (at_builtin;go_loud (refine Aq rfl _ _ _ rfl w.heap.size 22 i0 (.int .u64 0) 1 8 Tryz.underlying23 hi hz0 hz1 hz2 rfl zS (.slice av J.length cv) J.length _ rfl (AI HO4.out zA) (some ⟨w4.heap.size,0,none⟩) 1 1 [.int .u64 ((x:Int))] rfl (A9 _ 22 _ rfl zR rfl) Z3 zQ zD zK ?_;intro v' w5 hown5 hgrow5 hat5;obtain⟨a5,c5,rfl⟩:=AP hown5;have HO5:=hid hown5;have hb5:Below w.heap.size w4 w5:=(Below.grown ((by (repeat (first | with_reducible exact Below.refl _ _ | with_reducible assumption | (with_reducible refine As ?_ _) | (with_reducible refine Below.setCell ?_ zE _) | (with_reducible refine Below.drew ?_) | (with_reducible refine below_drewN ?_ _) | (refine Af zH ?_))):Below w4.heap.size w4 _).mono hsz4) hgrow5 zK (fun g e=>(HO4.out.lt g e).1));clear hown5 hgrow5 hat5))
     have HIN5:=hid (HIN4.out.row hb5)
     have ho5:w5.ownsRow w.heap.size 22 1 (.slice a5 (J.length+1) c5) (J++[(x:Int)]).length (Be (J++[(x:Int)])):=by
      have e:Be (J++[(x:Int)])=Be J++[.int .u64 ((x:Int))]:=zAu
      rw[e,Ar]
      exact HO5.out
     have HO6:=hid ho5
     have HB6:Hid (∀y∈J++[(x:Int)],0≤y∧y≤18446744073709551615):=hid (fun y hy=>by
      rw[BK,Bf] at hy
      rcases hy with hy | rfl
      ·exact HJB.out y hy
      ·omega)
     clear ho5;go_roundw
     case rel=>exact ⟨J++[(x:Int)],st1,zAx,zBd,HO6.out,HB6,HIN5,hid zAq⟩
     case measure=>(simp[intOf];try omega)
    ·rw[Ak hk1] at hstep
     have hk1':decide (st1.k=0)=false:=Ad hk1
     have HSP:=hid (hsp.out.trans hstep)
     clear hstep hsp;clear hk1 hnil;go_wp2_with fail;refine HAT.out.mono ?_
     rintro r w2 ⟨rfl,rfl⟩;go_wp2_with fail;refine HVR.out.mono ?_
     rintro r w3 ⟨rfl,hst3⟩;have HIN3:=hid (hin.out.step hst3)
     have HO3:=hid (Eu HO.out hlt hst3.2)
     have hg:=AA w3 HIN3.out.rd
     rw[hk1'] at hg
     have HG:=hid hg
     clear hst3 hg;go_wp2_with fail;refine HG.out.mono ?_
     rintro r w5 ⟨rfl,hb5⟩;have HE:=hid (HIN3.out.to.then hb5)
     go_wp2_with fail;go_ret;rw[HSP.out]
     exact⟨_,rfl,AM (xs:=[]) rfl (Ai _) (Am _) (.inl rfl),HE.out⟩
   ·obtain⟨hq0,hq1⟩:=JG HJB.out hnil
    obtain⟨m,hm⟩:∃m,J.length=m+1:=⟨J.length-1,by have:J.length≠0:=fun e=>hnil (List.length_eq_zero_iff.1 e);omega⟩
    have HM:=hid hm
    have dz:decide ((0:Int)<(J.length:Int))=true:=Ae zD
    have dz2:decide (0<J.length)=true:=Ae zD
    have j1:(J.length:Int)-1=(m:Int):=zD
    have j2:(0:Int)≤(J.length:Int)-1:=zD
    have j3:(m:Int)<(J.length:Int):=zD
    have HUL:=hid (fun (W:World) (h:W.ownsRow w.heap.size 22 1 (.slice av J.length cv) J.length (Be J))=>Kf h HJB.out hm)
    generalize J.getLastD 0=q at*
    by_cases hk1:st1.k=0
    ·rw[Al hk1] at hstep
     have hk1':decide (st1.k=0)=true:=Ae hk1
     by_cases hov:18446744073709551615-q≤(x:Int)
     ·rw[Al ⟨hnil,hov⟩] at hstep
      have hfk:(st1.fail 13 st.p).k≠0:=Rs.By zD
      have HSP:=hid (hsp.out.trans hstep)
      clear hstep hsp;clear hk1 hk1' hnil hm;by_cases hqm:q=18446744073709551615
      ·subst hqm
       go_wp2_with fail;refine HAT.out.mono ?_
       rintro r w2 ⟨rfl,rfl⟩;go_wp2_with fail;refine HVR.out.mono ?_
       rintro r w3 ⟨rfl,hst3⟩;have HIN3:=hid (hin.out.step hst3)
       have HO3:=hid (Eu HO.out hlt hst3.2)
       obtain⟨b,o,rfl,hc3⟩:=HUL.out _ HO3.out
       clear HUL hst3;go_wp2_with fail;refine (Bj w3 HIN3.out.rd 13 (st.p:Int) zD).mono ?_
       rintro r w4 ⟨rfl,hst4⟩;have HIN4:=hid (HIN3.out.step hst4)
       have hg:=AA w4 HIN4.out.rd
       rw[Ad hfk] at hg
       have HG:=hid hg
       clear hst4 hg;go_wp2_with fail;refine HG.out.mono ?_
       rintro r w5 ⟨rfl,hb5⟩;have HE:=hid (HIN4.out.to.then hb5)
       go_wp2_with fail;go_ret;rw[HSP.out]
       exact⟨_,rfl,AM (xs:=[]) rfl (Ai _) (Am _) (.inl rfl),HE.out⟩
      ·have w1':q+1≤18446744073709551615:=by omega
       have w0':0≤q+1:=zD
       have e0:(q+1==0)=false:=beq_eq_false_iff_ne.2 zD
       obtain⟨Y,hY⟩:∃Y,((x:Int)+(q+1))%18446744073709551616=Y:=⟨_,rfl⟩
       have hY2:IntKind.u64.wrap ((x:Int)+(q+1))=Y:=by rw[IntKind.wrap_u64];exact hY
       have dY:decide (Y<(x:Int))=true:=Ae zD
       go_wp2_with fail;refine HAT.out.mono ?_
       rintro r w2 ⟨rfl,rfl⟩;go_wp2_with fail;refine HVR.out.mono ?_
       rintro r w3 ⟨rfl,hst3⟩;have HIN3:=hid (hin.out.step hst3)
       have HO3:=hid (Eu HO.out hlt hst3.2)
       obtain⟨b,o,rfl,hc3⟩:=HUL.out _ HO3.out
       clear HUL hst3;go_wp2_with fail;refine (Bj w3 HIN3.out.rd 13 (st.p:Int) zD).mono ?_
       rintro r w4 ⟨rfl,hst4⟩;have HIN4:=hid (HIN3.out.step hst4)
       have hg:=AA w4 HIN4.out.rd
       rw[Ad hfk] at hg
       have HG:=hid hg
       clear hst4 hg;go_wp2_with fail;refine HG.out.mono ?_
       rintro r w5 ⟨rfl,hb5⟩;have HE:=hid (HIN4.out.to.then hb5)
       go_wp2_with fail;go_ret;rw[HSP.out]
       exact⟨_,rfl,AM (xs:=[]) rfl (Ai _) (Am _) (.inl rfl),HE.out⟩
     ·rw[Ak (fun h=>hov h.2),Ak hnil] at hstep
      have w1':q+1≤18446744073709551615:=zD
      have w0':0≤q+1:=zD
      have w2':(x:Int)+(q+1)≤18446744073709551615:=zD
      have w3':0≤(x:Int)+(q+1):=zD
      have e0:(q+1==0)=false:=beq_eq_false_iff_ne.2 zD
      have dY:decide ((x:Int)+(q+1)<(x:Int))=false:=Ad zD
      have HSP:=hid (hsp.out.trans hstep)
      clear hstep hsp;clear hk1 hnil hm;go_wp2_with fail;refine HAT.out.mono ?_
      rintro r w2 ⟨rfl,rfl⟩;go_wp2_with fail;refine HVR.out.mono ?_
      rintro r w3 ⟨rfl,hst3⟩;have HIN3:=hid (hin.out.step hst3)
      have HO3:=hid (Eu HO.out hlt hst3.2)
      obtain⟨b,o,rfl,hc3⟩:=HUL.out _ HO3.out
      have hg:=AA w3 HIN3.out.rd
      rw[hk1'] at hg
      have HG:=hid hg
      clear hst3 hg;go_wp2_with fail;clear hc3 HUL;refine HG.out.mono ?_
      rintro r w4 ⟨rfl,hb4⟩;have HIN4:=hid (HIN3.out.step (Az.later HIN3.out.rd hb4))
      have HO4:=hid (AI HO3.out hb4)
      have hsz4:=HIN4.out.tch.size
      clear hb4;go_wp2_with (at_builtin;go_loud (refine Aq rfl _ _ _ rfl w.heap.size 22 i0 (.int .u64 0) 1 8 Tryz.underlying23 hi hz0 hz1 hz2 rfl zS (.slice (some ⟨b,o,none⟩) J.length cv) J.length _ rfl (AI HO4.out zA) (some ⟨w4.heap.size,0,none⟩) 1 1 [.int .u64 ((x:Int)+(q+1))] rfl (A9 _ 22 _ rfl zR rfl) Z3 zQ zD zK ?_;intro v' w5 hown5 hgrow5 hat5;obtain⟨a5,c5,rfl⟩:=AP hown5;have HO5:=hid hown5;have hb5:Below w.heap.size w4 w5:=(Below.grown ((by (repeat (first | with_reducible exact Below.refl _ _ | with_reducible assumption | (with_reducible refine As ?_ _) | (with_reducible refine Below.setCell ?_ zE _) | (with_reducible refine Below.drew ?_) | (with_reducible refine below_drewN ?_ _) | (refine Af zH ?_))):Below w4.heap.size w4 _).mono hsz4) hgrow5 zK (fun g e=>(HO4.out.lt g e).1));clear hown5 hgrow5 hat5))
      have HIN5:=hid (HIN4.out.row hb5)
      have ho5:w5.ownsRow w.heap.size 22 1 (.slice a5 (J.length+1) c5) (J++[(x:Int)+(q+1)]).length (Be (J++[(x:Int)+(q+1)])):=by
       have e:Be (J++[(x:Int)+(q+1)])=Be J++[.int .u64 ((x:Int)+(q+1))]:=zAu
       rw[e,Ar]
       exact HO5.out
      have HO6:=hid ho5
      have HB6:Hid (∀y∈J++[(x:Int)+(q+1)],0≤y∧y≤18446744073709551615):=hid (fun y hy=>by
       rw[BK,Bf] at hy
       rcases hy with hy | rfl
       ·exact HJB.out y hy
       ·omega)
      clear ho5;go_roundw
      case rel=>exact ⟨J++[(x:Int)+(q+1)],st1,zAx,zBd,HO6.out,HB6,HIN5,hid zAq⟩
      case measure=>(simp[intOf];try omega)
    ·rw[Ak hk1] at hstep
     have hk1':decide (st1.k=0)=false:=Ad hk1
     have hx0:=HBAD.out hk1
     subst hx0;have hfid:st1.fail 13 st.p=st1:=Rs.Bc hk1
     have HSP:=hid (hsp.out.trans hstep)
     clear hstep hsp;clear hk1 hnil hm;by_cases hqm:q=18446744073709551615
     ·subst hqm
      go_wp2_with fail;refine HAT.out.mono ?_
      rintro r w2 ⟨rfl,rfl⟩;go_wp2_with fail;refine HVR.out.mono ?_
      rintro r w3 ⟨rfl,hst3⟩;have HIN3:=hid (hin.out.step hst3)
      have HO3:=hid (Eu HO.out hlt hst3.2)
      obtain⟨b,o,rfl,hc3⟩:=HUL.out _ HO3.out
      clear HUL hst3;go_wp2_with fail;refine (Bj w3 HIN3.out.rd 13 (st.p:Int) zD).mono ?_
      rintro r w4 ⟨rfl,hst4⟩;rw[hfid] at hst4
      have HIN4:=hid (HIN3.out.step hst4)
      have hg:=AA w4 HIN4.out.rd
      rw[hk1'] at hg
      have HG:=hid hg
      clear hst4 hg;go_wp2_with fail;refine HG.out.mono ?_
      rintro r w5 ⟨rfl,hb5⟩;have HE:=hid (HIN4.out.to.then hb5)
      go_wp2_with fail;go_ret;rw[HSP.out]
      exact⟨_,rfl,AM (xs:=[]) rfl (Ai _) (Am _) (.inl rfl),HE.out⟩
     ·have w1':q+1≤18446744073709551615:=by omega
      have w0':0≤q+1:=zD
      have e0:(q+1==0)=false:=beq_eq_false_iff_ne.2 zD
      have dY:decide (q+1<0)=false:=Ad zD
      have dY2:decide (((0:Nat):Int)+(q+1)<((0:Nat):Int))=false:=Ad zD
      have dY3:decide ((0:Int)+(q+1)<0)=false:=Ad zD
      go_wp2_with fail;refine HAT.out.mono ?_
      rintro r w2 ⟨rfl,rfl⟩;go_wp2_with fail;refine HVR.out.mono ?_
      rintro r w3 ⟨rfl,hst3⟩;have HIN3:=hid (hin.out.step hst3)
      have HO3:=hid (Eu HO.out hlt hst3.2)
      obtain⟨b,o,rfl,hc3⟩:=HUL.out _ HO3.out
      clear HUL;have hg:=AA w3 HIN3.out.rd
      rw[hk1'] at hg
      have HG:=hid hg
      clear hst3 hg;go_wp2_with fail;refine HG.out.mono ?_
      rintro r w5 ⟨rfl,hb5⟩;have HE:=hid (HIN3.out.to.then hb5)
      go_wp2_with fail;go_ret;rw[HSP.out]
      exact⟨_,rfl,AM (xs:=[]) rfl (Ai _) (Am _) (.inl rfl),HE.out⟩
  ·have hJN:J.length=N:=by omega
   have d1:decide ((J.length:Int)<(N:Int))=false:=Ad zD
   have d1':decide (J.length<N)=false:=Ad zD
   have HSP:Hid (Rs.Cp B N s []=(st,J)):=hid (by rw[hsp.out,hJN,CS];rfl)
   have HV:=hid (EX hJb.out rfl hown)
   have HE:=hid hin.out.to
   clear hown hsp hJN hk hge;go_wp2_with fail;go_ret;rw[HSP.out]
   exact⟨_,rfl,HV.out,HE.out⟩
end Go.Proofs.YtlbffbkbkajciaaGreat
