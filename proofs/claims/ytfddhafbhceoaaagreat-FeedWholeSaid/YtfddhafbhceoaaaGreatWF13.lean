/- Mini: Needed by feedNone_walk, part 13: texts put together by shake.py; no condition. -/
import Derived.Test.YtfddhafbhceoaaaGreatWF5
import Derived.Test.YtfddhafbhceoaaaGreatWF4
import Derived.Test.YtfddhafbhceoaaaGreatWF3
import Derived.Test.YtfddhafbhceoaaaGreatWF12
import Derived.Test.YtfddhafbhceoaaaGreatWF11
import Derived.Test.YtfddhafbhceoaaaGreatWF6
import Derived.Test.YtfddhafbhceoaaaGreatWF10
import Derived.Test.YtfddhafbhceoaaaGreatWF2
import Derived.Test.YtfddhafbhceoaaaGreatWF1
import Derived.Deep.Cut
import Derived.Deep.CutBlock
import Derived.Test.YtfddhafbhceoaaaGreatWF9
set_option linter.unusedVariables false
set_option linter.unusedSimpArgs false
set_option maxRecDepth 100000
set_option maxHeartbeats 6400000
namespace Go.Bs
variable{n sz:Nat}{S:Nat → Prop}{a:Option Addr}{w:World}
theorem zB3{p:Prop}(h:p:=by rw [HN.out, Ag hk1]):p:=h
theorem zBr{p:Prop}(h:p:=by rw [HN2.out]; exact ⟨rfl, rfl, rfl, rfl, by simp⟩):p:=h
theorem zA6{p:Prop}(h:p:=by simp [results, Tryz.results153, go_sem, y0, y1, y2, ly, z0, z1, lz]):p:=h
theorem Z8{p:Prop}(h:p:=by simp [results, Tryz.results228, go_sem, q0, q1, lq]):p:=h
theorem Z7{p:Prop}(h:p:=by simp [results, Tryz.results339, go_sem, q0, q1, lq]):p:=h
theorem ZZ{p:Prop}(h:p:=by show ¬ g = w.heap.size; omega):p:=h
theorem ZN{p:Prop}(h:p:=by simp [results, Tryz.results92, go_sem, q0, q1, lq]):p:=h
theorem zN{p:Prop}(h:p:=by repeat (first | with_reducible assumption | with_reducible refine Blk.drew ?_ | with_reducible refine Blk.far ?_ (by dsimp only; omega) _)):p:=h
theorem Ah:type_of% @List.getElem_cons_zero:=@List.getElem_cons_zero
theorem Ak:type_of% @List.getElem_toArray:=@List.getElem_toArray
end Go.Bs
namespace Go.Proofs.YtfddhafbhceoaaaGreat
open Go.RowKit Go.Bs Go.Maps
variable{f:Int}{P:List UInt8}{g:Nat}{s:Rs}{t:TypeId}{v vm vo:Value}{w w':World}
theorem ME{cs:Array Value}(h:Blk w g t cs):w.frozen? ⟨g,0,none⟩=false∧w.frozen? ⟨g,1,none⟩=false∧w.frozen? ⟨g,2,none⟩=false:=⟨h.free 0,h.free 1,h.free 2⟩
theorem Xa{B:List UInt8}{s:Rs}(h:(s.hdr B).1.k≠0):(s.hdr B).2=(0,0,0):=by
 unfold Rs.hdr at h ⊢
 dsimp only at h ⊢
 generalize (s.A9 B)=v at*
 generalize (v.1.ep B)=e at*
 generalize (if v.2=1 then e.1.po B else (e.1,0))=b at*
 generalize (b.1.take B 4)=f at*
 by_cases h1:f.1.k=0
 ·rw[Ag h1] at h ⊢
  by_cases h2:EC f.2=Cc (CR v.2 e.2 b.2)
  ·rw[Ag h2] at h
   exact absurd h1 h
  ·rw[Ai h2]
 ·rw[Ai h1]
theorem Vp{B:List UInt8}(h:((⟨0,0,0⟩:Rs).hdr B).1.k=0):1≤((⟨0,0,0⟩:Rs).hdr B).2.1:=by
 have:=(Rs.Pc (s:=⟨0,0,0⟩) ⟨Ar _,fun _=>rfl⟩ h).1
 exact (Nz this).1.1
theorem Ts(w:World)(B:List UInt8)(a:Option Addr)(n c:Nat)(hl:Am.r (·<w.heap.size) w [.slice a n c] B)(hB:B.length≤1000000000){v e b:Nat}(hH:(⟨0,0,0⟩:Rs).hdr B=(s,v,e,b)):
  Calls Tryz.prog 153 #[.slice a n c] w fun r w'=>r=.returned (.tuple #[.agg #[.int .i64 (v:Int),.int .u64 (e:Int),.int .u64 (b:Int)],.int .i64 (if s.k=0 then (s.p:Int) else 0),.agg #[.int .i64 s.k,.int .i64 (if s.k=0 then 0 else s.f)]])∧Below w.heap.size w w':=by
 obtain⟨rfl,hmx,hcc,hcm⟩:=AL hl
 have HN:=hid (Lo ((w.alloc (.cells #[.int .i64 0,.int .u64 0,.int .u64 0] 167)).alloc (.cells #[.int .i64 0,.int .i64 0] 65)) B a _ c (lift hl zA))
 have hLS:=hid (fun (W:World) (h:AS W (w.heap.size+1+1) B a ⟨0,0,0⟩)=>Rx W h hB)
 have hz:=@Xa B ⟨0,0,0⟩
 have h3:=@Vp B
 rw[hH] at hLS hz h3
 dsimp only at hLS hz h3
 clear hl hH
 by_cases hk:s.k=0
 ·rw[Ag hk,Ag hk]
  have hv:=h3 hk
  have dv:((v:Int)==(0:Int))=false:=by rw[BL];omega
  rw[hk]
  clear hk hz h3 hv
  go_enter Tryz.func153,Tryz.ntmps153
  go_wp2_with fail
  refine HN.out.mono ?_
  rintro r w1 ⟨rfl,hrd,hb1⟩
  have F1:Blk w1 w.heap.size 167 #[.int .i64 0,.int .u64 0,.int .u64 0]:=Blk.later zD hb1
  have G1:Blk w1 (w.heap.size+1) 65 #[.int .i64 0,.int .i64 0]:=Blk.later zD hb1
  have hbw1:Below w.heap.size w w1:=zA
  have hgl:=hrd.blk.lt
  simp at hrd hgl
  have HLS:=hid (hLS.out w1 hrd)
  clear hrd hb1
  go_wp2_with fail
  refine HLS.out.mono ?_
  rintro r w2 ⟨rfl,hst⟩
  have HST:=hid hst
  have hs2:=hst.size
  have F2:=F1.tch hst.2 zC
  have G2:=G1.tch hst.2 zC
  have hbw2:Below w.heap.size w w2:=hbw1.trans (hst.below zC zC)
  have HF3:=hid (F2.alloc (.cells #[.int .i64 (v:Int),.int .u64 (e:Int),.int .u64 (b:Int)] 167))
  have HG3:=hid (G2.alloc (.cells #[.int .i64 (v:Int),.int .u64 (e:Int),.int .u64 (b:Int)] 167))
  have HK3:Hid (Blk (w2.alloc (.cells #[.int .i64 (v:Int),.int .u64 (e:Int),.int .u64 (b:Int)] 167)) w2.heap.size 167 #[.int .i64 (v:Int),.int .u64 (e:Int),.int .u64 (b:Int)]):=hid (Blk.new _ _ _)
  have HRD:=hid (hst.1.later (show Below w2.heap.size w2 (w2.alloc (.cells #[.int .i64 (v:Int),.int .u64 (e:Int),.int .u64 (b:Int)] 167)) by (repeat (first | with_reducible exact Below.refl _ _ | with_reducible assumption | (with_reducible refine Aw ?_ _) | (with_reducible refine Below.setCell ?_ zE _) | (with_reducible refine Below.drew ?_) | (with_reducible refine below_drewN ?_ _) | (refine Aj zG ?_)))))
  have HBW:=hid (Aw hbw2 (.cells #[.int .i64 (v:Int),.int .u64 (e:Int),.int .u64 (b:Int)] 167))
  have HATT:=hid (fun (V:World) (hV:AS V (w.heap.size+1+1) B a s)=>Cd V hV)
  clear hst F1 G1 F2 G2 hbw1 hbw2
  go_upto_region 3 with (fail)
  have hz3:w2.heap.size<(w2.alloc (.cells #[.int .i64 (v:Int),.int .u64 (e:Int),.int .u64 (b:Int)] 167)).heap.size:=zM
  have hz4:w.heap.size+1+1<w2.heap.size:=zC
  generalize hgk:w2.heap.size=gk at*
  generalize w2.alloc (.cells #[.int .i64 (v:Int),.int .u64 (e:Int),.int .u64 (b:Int)] 167)=w3 at*
  obtain⟨k0,k1,k2,lk⟩:=E5 HK3.out
  obtain⟨y0,y1,y2,ly⟩:=E5 HF3.out
  obtain⟨z0,z1,z2,z3,lz⟩:=Bd HG3.out
  obtain⟨q0,q1,q2⟩:=ME HF3.out
  go_wp2_with fail
  have SK:=hid (fun (w':World) (h:Blk w' gk 167 #[.int .i64 (v:Int),.int .u64 (e:Int),.int .u64 (b:Int)])=>(⟨h.cell 0,h.cell 1,h.cell 2⟩:w'.cell? ⟨gk,0,none⟩=some (.int .i64 (v:Int))∧w'.cell? ⟨gk,1,none⟩=some (.int .u64 (e:Int))∧w'.cell? ⟨gk,2,none⟩=some (.int .u64 (b:Int))))
  have hKd:=HK3.out.drew
  have hFd:=HF3.out.drew
  have hGd:=HG3.out.drew
  refine wp_region_held_drew (S:=fun w'=>w'.cell? ⟨gk,0,none⟩=some (.int .i64 (v:Int))∧w'.cell? ⟨gk,1,none⟩=some (.int .u64 (e:Int))∧w'.cell? ⟨gk,2,none⟩=some (.int .u64 (b:Int))) zJ (SK.out _ HK3.out) (fun hHeld=> ?_)
  refine Aq (i:=0) (oi:=_) (v:=?_) rfl zF zF zF (fun _ _ _ h=>h) (Or.inl ⟨zR,?_⟩) zK ?_
  rotate_left
  ·(intro w hSw;(try dsimp only at hSw);go_simp<;>with_reducible rfl)
  (try simp only[Act.put,Aa,Ab,Ac])
  refine Aq (i:=1) (oi:=_) (v:=?_) rfl zF zF zF (fun _ _ _ h=>h) (Or.inl ⟨zR,?_⟩) zK ?_
  rotate_left
  ·(intro w hSw;(try dsimp only at hSw);go_simp<;>with_reducible rfl)
  (try simp only[Act.put,Aa,Ab,Ac])
  have HRd:=hid (show AS w3.drew (w.heap.size+1+1) B a s from HRD.out.later zA)
  have HBd:Hid (Below w.heap.size w w3.drew):=hid (Below.drew HBW.out)
  have hzd:gk<w3.drew.heap.size:=lk
  generalize w3.drew=wd at*
  obtain⟨y0,y1,y2,ly⟩:=E5 hFd
  obtain⟨z0,z1,z2,z3,lz⟩:=Bd hGd
  obtain⟨q0,q1,q2⟩:=ME hFd
  refine Aq (i:=3) (oi:=_) (v:=?_) rfl zF zF zF (fun _ _ _ h=>h) (Or.inl ⟨zR,?_⟩) zK ?_
  rotate_left
  ·(intro w hSw;(try dsimp only at hSw);go_simp<;>with_reducible rfl)
  (try simp only[Act.put,Aa,Ab,Ac])
  refine Bk (rs:=[2]) zF zM ?_
  refine Ba (o:=_) rfl (fun K hK=> ?_) AllReadyH.nil
  (go_simp;go_at_call 173;refine (HATT.out _ HRd.out).mono ?_;rintro r wq ⟨rfl,rfl⟩)
  refine hK.out _ _ ?_ (fun hHeld=> ?_)
  ·exact SK.out _ zN
  clear hK K
  (try simp only[Act.put,Aa,Ab,Ac])
  (try simp only[Ak,Ah,Af,Act.put,Aa,Ab,Ac])
  refine Bk (rs:=[4]) zF zM ?_
  refine Ba (o:=_) rfl (fun K hK=> ?_) AllReadyH.nil
  go_simp
  refine hK.out _ _ ?_ (fun hHeld=> ?_)
  ·exact SK.out _ zN
  clear hK K
  (try simp only[Act.put,Aa,Ab,Ac])
  refine Aq (i:=5) (oi:=_) (v:=?_) rfl zF zF zF (fun _ _ _ h=>h) (Or.inl ⟨zR,?_⟩) zK ?_
  rotate_left
  ·(intro w hSw;(try dsimp only at hSw);go_simp<;>with_reducible rfl)
  (try simp only[Act.put,Aa,Ab,Ac])
  (try simp only[Ak,Ah,Af,Act.put,Aa,Ab,Ac])
  refine Bk (rs:=[6]) zF zM ?_
  refine Ba (o:=_) rfl (fun K hK=> ?_) AllReadyH.nil
  go_simp
  refine hK.out _ _ ?_ (fun hHeld=> ?_)
  ·exact SK.out _ zN
  clear hK K
  (try simp only[Act.put,Aa,Ab,Ac])
  (try simp only[Ak,Ah,Af,Act.put,Aa,Ab,Ac])
  refine FP zJ ?_ _
  have hbe:=HBd.out
  go_wp2_with fail
  refine Ax (v:=.tuple #[.agg #[.int .i64 (v:Int),.int .u64 (e:Int),.int .u64 (b:Int)],.int .i64 (s.p:Int),.agg #[.int .i64 0,.int .i64 0]]) zA6 rfl ⟨rfl,zA⟩
 ·rw[Ai hk,Ai hk]
  have hz:=hz hk
  simp only[BF] at hz
  obtain⟨rfl,rfl,rfl⟩:=hz
  have HFT:=hid (fun (V:World) (hV:AS V (w.heap.size+1+1) B a s)=>H7 V hV)
  clear hk h3
  go_enter Tryz.func153,Tryz.ntmps153
  go_wp2_with fail
  refine HN.out.mono ?_
  rintro r w1 ⟨rfl,hrd,hb1⟩
  have F1:Blk w1 w.heap.size 167 #[.int .i64 0,.int .u64 0,.int .u64 0]:=Blk.later zD hb1
  have G1:Blk w1 (w.heap.size+1) 65 #[.int .i64 0,.int .i64 0]:=Blk.later zD hb1
  have hbw1:Below w.heap.size w w1:=zA
  have hgl:=hrd.blk.lt
  simp at hrd hgl
  have HLS:=hid (hLS.out w1 hrd)
  clear hrd hb1
  go_wp2_with fail
  refine HLS.out.mono ?_
  rintro r w2 ⟨rfl,hst⟩
  have hs2:=hst.size
  have HF3:=hid ((F1.tch hst.2 zC).alloc (.cells #[.int .i64 0,.int .u64 0,.int .u64 0] 167))
  have HG3:=hid ((G1.tch hst.2 zC).alloc (.cells #[.int .i64 0,.int .u64 0,.int .u64 0] 167))
  have HK3:Hid (Blk (w2.alloc (.cells #[.int .i64 0,.int .u64 0,.int .u64 0] 167)) w2.heap.size 167 #[.int .i64 0,.int .u64 0,.int .u64 0]):=hid (Blk.new _ _ _)
  have HRD:=hid (hst.1.later (show Below w2.heap.size w2 (w2.alloc (.cells #[.int .i64 0,.int .u64 0,.int .u64 0] 167)) by (repeat (first | with_reducible exact Below.refl _ _ | with_reducible assumption | (with_reducible refine Aw ?_ _) | (with_reducible refine Below.setCell ?_ zE _) | (with_reducible refine Below.drew ?_) | (with_reducible refine below_drewN ?_ _) | (refine Aj zG ?_)))))
  have HBW:=hid (Aw (hbw1.trans (hst.below zC zC):Below w.heap.size w w2) (.cells #[.int .i64 0,.int .u64 0,.int .u64 0] 167))
  clear hst F1 G1 hbw1
  go_upto_region 3 with (fail)
  have hz3:w2.heap.size<(w2.alloc (.cells #[.int .i64 0,.int .u64 0,.int .u64 0] 167)).heap.size:=zM
  have hz4:w.heap.size+1+1<w2.heap.size:=zC
  generalize hgk:w2.heap.size=gk at*
  generalize w2.alloc (.cells #[.int .i64 0,.int .u64 0,.int .u64 0] 167)=w3 at*
  obtain⟨k0,k1,k2,lk⟩:=E5 HK3.out
  obtain⟨y0,y1,y2,ly⟩:=E5 HF3.out
  obtain⟨z0,z1,z2,z3,lz⟩:=Bd HG3.out
  obtain⟨q0,q1,q2⟩:=ME HF3.out
  go_wp2_with fail
  have SK:=hid (fun (w':World) (h:Blk w' gk 167 #[.int .i64 0,.int .u64 0,.int .u64 0])=>(⟨h.cell 0,h.cell 1,h.cell 2⟩:w'.cell? ⟨gk,0,none⟩=some (.int .i64 0)∧w'.cell? ⟨gk,1,none⟩=some (.int .u64 0)∧w'.cell? ⟨gk,2,none⟩=some (.int .u64 0)))
  have hKd:=HK3.out.drew
  have hFd:=HF3.out.drew
  have hGd:=HG3.out.drew
  refine wp_region_held_drew (S:=fun w'=>w'.cell? ⟨gk,0,none⟩=some (.int .i64 0)∧w'.cell? ⟨gk,1,none⟩=some (.int .u64 0)∧w'.cell? ⟨gk,2,none⟩=some (.int .u64 0)) zJ (SK.out _ HK3.out) (fun hHeld=> ?_)
  refine Aq (i:=0) (oi:=_) (v:=?_) rfl zF zF zF (fun _ _ _ h=>h) (Or.inl ⟨zR,?_⟩) zK ?_
  rotate_left
  ·(intro w hSw;(try dsimp only at hSw);go_simp<;>with_reducible rfl)
  (try simp only[Act.put,Aa,Ab,Ac])
  refine Aq (i:=1) (oi:=_) (v:=?_) rfl zF zF zF (fun _ _ _ h=>h) (Or.inl ⟨zR,?_⟩) zK ?_
  rotate_left
  ·(intro w hSw;(try dsimp only at hSw);go_simp<;>with_reducible rfl)
  (try simp only[Act.put,Aa,Ab,Ac])
  have HRd:=hid (show AS w3.drew (w.heap.size+1+1) B a s from HRD.out.later zA)
  have HBd:Hid (Below w.heap.size w w3.drew):=hid (Below.drew HBW.out)
  have hzd:gk<w3.drew.heap.size:=lk
  generalize w3.drew=wd at*
  refine Bk (rs:=[2]) zF zM ?_
  refine Ba (o:=_) rfl (fun K hK=> ?_) AllReadyH.nil
  (go_simp;go_at_call 114;refine (HFT.out _ HRd.out).mono ?_;rintro r wq ⟨rfl,hbq⟩;have hKq:=hKd.later hbq;have hFq:=hFd.later hbq;have hGq:=hGd.later hbq;have HBQ:=hid (Aj hbq HBd.out);obtain⟨y0,y1,y2,ly⟩:=E5 hFq;obtain⟨z0,z1,z2,z3,lz⟩:=Bd hGq;obtain⟨q0,q1,q2⟩:=ME hFq)
  refine hK.out _ _ ?_ (fun hHeld=> ?_)
  ·exact SK.out _ zN
  clear hK K
  (try simp only[Act.put,Aa,Ab,Ac])
  (try simp only[Ak,Ah,Af,Act.put,Aa,Ab,Ac])
  refine Bk (rs:=[3]) zF zM ?_
  refine Ba (o:=_) rfl (fun K hK=> ?_) AllReadyH.nil
  go_simp
  refine hK.out _ _ ?_ (fun hHeld=> ?_)
  ·exact SK.out _ zN
  clear hK K
  (try simp only[Act.put,Aa,Ab,Ac])
  refine Aq (i:=4) (oi:=_) (v:=?_) rfl zF zF zF (fun _ _ _ h=>h) (Or.inl ⟨zR,?_⟩) zK ?_
  rotate_left
  ·(intro w hSw;(try dsimp only at hSw);go_simp<;>with_reducible rfl)
  (try simp only[Act.put,Aa,Ab,Ac])
  (try simp only[Ak,Ah,Af,Act.put,Aa,Ab,Ac])
  refine Bk (rs:=[5]) zF zM ?_
  refine Ba (o:=_) rfl (fun K hK=> ?_) AllReadyH.nil
  go_simp
  refine hK.out _ _ ?_ (fun hHeld=> ?_)
  ·exact SK.out _ zN
  clear hK K
  (try simp only[Act.put,Aa,Ab,Ac])
  (try simp only[Ak,Ah,Af,Act.put,Aa,Ab,Ac])
  refine FP zJ ?_ _
  have hbe:=HBQ.out
  go_wp2_with fail
  refine Ax (v:=.tuple #[.agg #[.int .i64 0,.int .u64 0,.int .u64 0],.int .i64 0,.agg #[.int .i64 s.k,.int .i64 s.f]]) zA6 rfl ⟨rfl,zA⟩
theorem KZ(w:World){D:Nat→Prop}{L:C7}{σ:FSt}{E:List EvX}(h:By w g D v vm vo L σ E)(hB:σ.buf.length≤1000000000){P:List UInt8}(hF:(⟨0,0,0⟩:Rs).frame σ.buf 2097152=(s,P)):
  Calls Tryz.prog 228 #[.pointer (some ⟨g,0,none⟩)] w fun r w'=>∃(va:Option Addr) (na ca:Nat) (at_:Int),r=.returned (.tuple #[.slice va na ca,.int .i64 at_,.bool (decide (s.k=0)),.agg #[.int .i64 (if s.k=1 then 0 else s.k),.int .i64 (if s.k=0∨s.k=1 then 0 else s.f)]])∧(s.k=0→at_=(s.p:Int)-4-(P.length:Int)∧Am.r (fun q=>w.heap.size≤q∧q<w'.heap.size) w' [.slice va na ca] P)∧Below w.heap.size w w':=by
 obtain⟨aJ,cJ,rfl⟩:=h.buf.form
 have HB:=hid h.blk
 have hrd:=h.buf.read
 have hfc:=(Rz σ.buf).2
 rw[hF] at hfc
 obtain⟨hG1,hG2⟩:=Tt (B:=σ.buf) (m:=2097152)
 have hpl:=Rs.Kl (B:=σ.buf) (s:=⟨0,0,0⟩) (m:=2097152)
 have HG0:=hid (fun (V:World) (hV:Below w.heap.size w V)=>Vt V σ.buf aJ _ cJ (lift (Am.mono hrd fun q hq=>hq.2) hV) hB 2097152 zL)
 have HFW:=hid (Ry (w.alloc (.cells #[.int .i64 0,.int .i64 0] 65)) σ.buf aJ _ cJ (lift (Am.mono hrd fun q hq=>hq.2) zA) hB)
 unfold Qk at HG0 hG1 hG2
 rw[hF] at HG0 hG1 hG2 hpl
 dsimp only at HG0 hG1 hG2 hpl
 clear hF hrd
 have hwp:0<Hv σ.buf→(Fh σ.buf).1.k=0:=Sy.1
 have hbl:σ.buf.length≤1000000000:=hB
 generalize Hv σ.buf=Nw at*
 by_cases hA:0<Nw∧σ.buf.length<Nw
 ·have hk1:s.k=1:=(hfc (hwp hA.1) hA.2).code
  have d1:decide ((σ.buf.length:Int)<(Nw:Int))=true:=Ad zC
  have d1':decide (σ.buf.length<Nw)=true:=Ad hA.2
  rw[Ad hA.1] at HFW
  rw[Ae (by rw[hk1];decide:¬s.k=0),Ag hk1,Ag (Or.inr hk1:s.k=0∨s.k=1)]
  have hk0:¬s.k=0:=by rw[hk1];decide
  clear hk1 hfc hwp hA hG1 hG2 HG0 hpl
  go_enter Tryz.func228,Tryz.ntmps228
  obtain⟨y0,y1,y2,y3,y4,y5,y6,y7,y8,y9,y10,y11,y12,y13,y14,y15,y16,y17,y18,ly⟩:=Bo (HB.out.alloc (.cells #[.int .i64 0,.int .i64 0] 65))
  go_wp2_with fail
  refine HFW.out.mono ?_
  rintro r w1 ⟨rfl,hb1⟩
  have HB1:=(HB.out.alloc (.cells #[.int .i64 0,.int .i64 0] 65)).later hb1
  have F1:Blk w1 w.heap.size 65 #[.int .i64 0,.int .i64 0]:=Blk.later zD hb1
  obtain⟨q0,q1,g0,g1,lq⟩:=Bd F1
  clear y0 y1 y2 y3 y4 y5 y6 y7 y8 y9 y10 y11 y12 y13 y14 y15 y16 y17 y18 ly
  obtain⟨y0,y1,y2,y3,y4,y5,y6,y7,y8,y9,y10,y11,y12,y13,y14,y15,y16,y17,y18,ly⟩:=Bo HB1
  have hbw1:Below w.heap.size w w1:=zA
  go_wp2_with fail
  refine Ax (v:=.tuple #[.slice none 0 0,.int .i64 0,.bool false,.agg #[.int .i64 0,.int .i64 0]]) Z8 rfl ⟨none,0,0,0,rfl,fun e=>absurd e hk0,zA⟩
 ·have hcs:(Nw=0∧True)∨(0<Nw∧decide ((σ.buf.length:Int)<(Nw:Int))=false):=by
   rcases DR Nw with h0 | h0
   ·exact .inl ⟨h0,trivial⟩
   ·exact .inr ⟨h0,Ae zC⟩
  obtain⟨R,hR⟩:∃R:List UInt8 × Nat × Int × Int,R=(if s.k=0 then (P,s.p,0,0) else ([],0,s.k,s.f)):=⟨_,rfl⟩
  rw[←hR] at HG0 hG1 hG2
  obtain⟨DD,n1,k1,f1⟩:=R
  dsimp only at HG0 hG1 hG2
  have hk1:k1=s.k∧f1=(if s.k=0 then 0 else s.f)∧(s.k=0→DD=P∧n1=s.p):=by
   by_cases h:s.k=0
   ·rw[Ag h] at hR
    simp only[BF] at hR
    rw[Ag h,h]
    exact⟨hR.2.2.1,hR.2.2.2,fun _=>⟨hR.1,hR.2.1⟩⟩
   ·rw[Ai h] at hR
    simp only[BF] at hR
    rw[Ai h]
    exact⟨hR.2.2.1,hR.2.2.2,fun e=>absurd e h⟩
  obtain⟨rfl,hf1,hD⟩:=hk1
  have HD:=hid hD
  have HF1:=hid hf1
  have hgd:∃gd:Bool,decide (s.k=0)=gd:=⟨_,rfl⟩
  obtain⟨gd,hgd⟩:=hgd
  have HFG:=hid (fun (V:World)=>(by have:=BK V s.k f1;rw[hgd] at this;exact this:Calls Tryz.prog 65 #[.agg #[.int .i64 s.k,.int .i64 f1]] V fun r w'=>r=.returned (.bool gd)∧Below V.heap.size V w'))
  have HW1:Hid (IntKind.i64.wrap ((n1:Int)-4)=(n1:Int)-4):=hid (by rw[IntKind.wrap_i64];omega)
  have HW2:Hid (IntKind.i64.wrap ((n1:Int)-4-(DD.length:Int))=(n1:Int)-4-(DD.length:Int)):=hid (by rw[IntKind.wrap_i64];omega)
  rw[hgd]
  have HGD:=hid hgd
  obtain⟨KK,hKK⟩:∃KK:Int,(if s.k=1 then 0 else s.k)=KK:=⟨_,rfl⟩
  obtain⟨FF,hFF⟩:∃FF:Int,(if s.k=0∨s.k=1 then 0 else s.f)=FF:=⟨_,rfl⟩
  rw[hKK,hFF]
  have HKK:=hid hKK
  have HFF:=hid hFF
  clear hKK hFF
  have hkn:∃kn:Bool,decide (0<Nw)=kn∧(kn=false∨(kn=true∧decide ((σ.buf.length:Int)<(Nw:Int))=false∧decide (σ.buf.length<Nw)=false)):=by
   rcases hcs with ⟨h0,_⟩ | ⟨h0,h1⟩
   ·exact⟨false,Ae zC,.inl rfl⟩
   ·exact⟨true,Ad h0,.inr ⟨rfl,h1,Ae (by have:=GD h1;omega)⟩⟩
  obtain⟨kn,hkn0,hkn⟩:=hkn
  rw[hkn0] at HFW
  clear hR hD hf1 hfc hwp hA hpl hcs hkn0 hgd
  rcases hkn with rfl | ⟨rfl,d2,d2'⟩
  all_goals
   go_enter Tryz.func228,Tryz.ntmps228
   obtain⟨y0,y1,y2,y3,y4,y5,y6,y7,y8,y9,y10,y11,y12,y13,y14,y15,y16,y17,y18,ly⟩:=Bo (HB.out.alloc (.cells #[.int .i64 0,.int .i64 0] 65))
   go_wp2_with fail
   refine HFW.out.mono ?_
   rintro r w1 ⟨rfl,hb1⟩
   have HB1:=hid ((HB.out.alloc (.cells #[.int .i64 0,.int .i64 0] 65)).later hb1)
   have F1:Blk w1 w.heap.size 65 #[.int .i64 0,.int .i64 0]:=Blk.later zD hb1
   have HRZ:=hid F1
   have hbw1:Below w.heap.size w w1:=zA
   have HBW1:=hid hbw1
   have hz1:w.heap.size<w1.heap.size:=F1.lt
   clear y0 y1 y2 y3 y4 y5 y6 y7 y8 y9 y10 y11 y12 y13 y14 y15 y16 y17 y18 ly hb1 F1
   obtain⟨y0,y1,y2,y3,y4,y5,y6,y7,y8,y9,y10,y11,y12,y13,y14,y15,y16,y17,y18,ly⟩:=Bo HB1.out
   go_wp2_with fail
   refine (HG0.out _ HBW1.out).mono ?_
   rintro r w2 ⟨va,rfl,hr2,hb2⟩
   obtain⟨aD,cD,hv,hr2',_⟩:=AH hr2
   simp only[Av,AI] at hv
   subst hv
   have hz2:=hb2.size
   have HR2:=hid (Am.keep hr2' (w':=w2.alloc (.cells #[.int .i64 s.k,.int .i64 f1] 65)) fun q hq=>AN _ _ q hq.2)
   have HF2:Hid (Blk (w2.alloc (.cells #[.int .i64 s.k,.int .i64 f1] 65)) w.heap.size 65 #[.int .i64 0,.int .i64 0]):=hid ((HRZ.out.later hb2).alloc _)
   have HK2:Hid (Blk (w2.alloc (.cells #[.int .i64 s.k,.int .i64 f1] 65)) w2.heap.size 65 #[.int .i64 s.k,.int .i64 f1]):=hid (Blk.new _ _ _)
   have HBW2:Hid (Below w.heap.size w (w2.alloc (.cells #[.int .i64 s.k,.int .i64 f1] 65))):=hid (Aw (Aj hb2 HBW1.out) _)
   clear y0 y1 y2 y3 y4 y5 y6 y7 y8 y9 y10 y11 y12 y13 y14 y15 y16 y17 y18 ly hb2 hr2 hr2'
   go_upto_region 5 with (fail)
   have hz3:w2.heap.size<(w2.alloc (.cells #[.int .i64 s.k,.int .i64 f1] 65)).heap.size:=zM
   generalize w2.alloc (.cells #[.int .i64 s.k,.int .i64 f1] 65)=w3 at*
   obtain⟨q0,q1,q2,q3,lq⟩:=Bd HF2.out
   obtain⟨k0,k1,k2,k3,lk⟩:=Bd HK2.out
   have hbw3:=HBW2.out
   by_cases hk:s.k=1
   ·have dk:(s.k==(1:Int))=true:=by simp[hk]
    have hgf:gd=false:=by rw[←HGD.out,hk];rfl
    have hk0:¬s.k=0:=by rw[hk];decide
    have hE:KK=0∧FF=0:=⟨by rw[←HKK.out,Ag hk],by rw[←HFF.out,Ag (Or.inr hk)]⟩
    have HE:=hid hE
    have HGF:=hid hgf
    clear hk hE hgf
    go_wp2_with fail
    refine Ax (v:=.tuple #[.slice none 0 0,.int .i64 0,.bool false,.agg #[.int .i64 0,.int .i64 0]]) Z8 rfl ⟨none,0,0,0,by rw[HE.out.1,HE.out.2,HGF.out],fun e=>absurd e hk0,zA⟩
   ·have dk:(s.k==(1:Int))=false:=by simp[hk]
    have hff:(if s.k=0∨s.k=1 then (0:Int) else s.f)=f1:=by
     rw[HF1.out]
     by_cases h0:s.k=0
     ·rw[Ag h0,Ag (Or.inl h0)]
     ·rw[Ai h0,Ai (fun e=>e.elim h0 hk)]
    have hE:KK=s.k∧FF=f1:=⟨by rw[←HKK.out,Ai hk],by rw[←HFF.out,hff]⟩
    have HE:=hid hE
    clear hk hff hE
    go_wp2_with fail
    have SK:=hid (fun (w':World) (h:Blk w' w2.heap.size 65 #[.int .i64 s.k,.int .i64 f1])=>(⟨h.cell 0,h.cell 1⟩:w'.cell? ⟨w2.heap.size,0,none⟩=some (.int .i64 s.k)∧w'.cell? ⟨w2.heap.size,1,none⟩=some (.int .i64 f1)))
    have hK3:=HK2.out.drew
    have hF3:=HF2.out.drew
    refine wp_region_held_drew (S:=fun w'=>w'.cell? ⟨w2.heap.size,0,none⟩=some (.int .i64 s.k)∧w'.cell? ⟨w2.heap.size,1,none⟩=some (.int .i64 f1)) zJ (SK.out _ HK2.out) (fun hHeld=> ?_)
    refine Aq (i:=0) (oi:=_) (v:=?_) rfl zF zF zF (fun _ _ _ h=>h) (Or.inl ⟨zR,?_⟩) zK ?_
    rotate_left
    ·(intro w hSw;(try dsimp only at hSw);go_simp<;>with_reducible rfl)
    (try simp only[Act.put,Aa,Ab,Ac])
    refine Aq (i:=1) (oi:=_) (v:=?_) rfl zF zF zF (fun _ _ _ h=>h) (Or.inl ⟨zR,?_⟩) zK ?_
    rotate_left
    ·(intro w hSw;(try dsimp only at hSw);go_simp<;>with_reducible rfl)
    (try simp only[Act.put,Aa,Ab,Ac])
    refine Aq (i:=2) (oi:=_) (v:=?_) rfl zF zF zF (fun _ _ _ h=>h) (Or.inl ⟨zR,?_⟩) zK ?_
    rotate_left
    ·(intro w hSw;(try dsimp only at hSw);go_simp<;>with_reducible rfl)
    (try simp only[Act.put,Aa,Ab,Ac])
    (try rw[HW1.out])
    refine Aq (i:=3) (oi:=_) (v:=?_) rfl zF zF zF (fun _ _ _ h=>h) (Or.inl ⟨zR,?_⟩) zK ?_
    rotate_left
    ·(intro w hSw;(try dsimp only at hSw);go_simp<;>with_reducible rfl)
    (try simp only[Act.put,Aa,Ab,Ac])
    refine Aq (i:=4) (oi:=_) (v:=?_) rfl zF zF zF (fun _ _ _ h=>h) (Or.inl ⟨zR,?_⟩) zK ?_
    rotate_left
    ·(intro w hSw;(try dsimp only at hSw);go_simp<;>with_reducible rfl)
    (try simp only[Act.put,Aa,Ab,Ac])
    refine Aq (i:=5) (oi:=_) (v:=?_) rfl zF zF zF (fun _ _ _ h=>h) (Or.inl ⟨zR,?_⟩) zK ?_
    rotate_left
    ·(intro w hSw;(try dsimp only at hSw);go_simp<;>with_reducible rfl)
    (try simp only[Act.put,Aa,Ab,Ac])
    (try rw[HW2.out])
    refine Aq (i:=6) (oi:=_) (v:=?_) rfl zF zF zF (fun _ _ _ h=>h) (Or.inl ⟨zR,?_⟩) zK ?_
    rotate_left
    ·(intro w hSw;(try dsimp only at hSw);go_simp<;>with_reducible rfl)
    (try simp only[Act.put,Aa,Ab,Ac])
    refine Aq (i:=8) (oi:=_) (v:=?_) rfl zF zF zF (fun _ _ _ h=>h) (Or.inl ⟨zR,?_⟩) zK ?_
    rotate_left
    ·(intro w hSw;(try dsimp only at hSw);go_simp<;>with_reducible rfl)
    (try simp only[Act.put,Aa,Ab,Ac])
    (try simp only[Ak,Ah,Af,Act.put,Aa,Ab,Ac])
    have hbd:Below w.heap.size w w3.drew:=Below.drew hbw3
    have hrd:Am.r (fun q=>w.heap.size<q∧q<w3.drew.heap.size) w3.drew [.slice aD DD.length cD] DD:=Am.mono (Am.keep HR2.out (w':=w3.drew) fun q hq=>rfl) fun q hq=>⟨zC,by have:=hq.2;show q<w3.heap.size;omega⟩
    have HRD:=hid hrd
    have HBD:=hid hbd
    have hzd:w2.heap.size<w3.drew.heap.size:=hz3
    clear hrd hbd
    generalize w3.drew=wd at*
    refine Bk (rs:=[7]) zF zM ?_
    refine Ba (o:=_) rfl (fun K hK=> ?_) AllReadyH.nil
    (go_simp;go_at_call 65;refine (HFG.out _).mono ?_;rintro r wq ⟨rfl,hbq⟩;have hKq:=hK3.later hbq;have hFq:=hF3.later hbq;have HRQ:=hid (Am.keep HRD.out fun q hq=>hbq.block q hq.2);have HBQ:=hid (Aj hbq HBD.out);have hzq:=hbq.size;obtain⟨q0,q1,q2,q3,lq⟩:=Bd hFq)
    refine hK.out _ _ ?_ (fun hHeld=> ?_)
    ·exact SK.out _ zN
    clear hK K
    (try simp only[Act.put,Aa,Ab,Ac])
    refine Aq (i:=9) (oi:=_) (v:=?_) rfl zF zF zF (fun _ _ _ h=>h) (Or.inl ⟨zR,?_⟩) zK ?_
    rotate_left
    ·(intro w hSw;(try dsimp only at hSw);go_simp<;>with_reducible rfl)
    (try simp only[Act.put,Aa,Ab,Ac])
    refine Aq (i:=10) (oi:=_) (v:=?_) rfl zF zF zF (fun _ _ _ h=>h) (Or.inl ⟨zR,?_⟩) zK ?_
    rotate_left
    ·(intro w hSw;(try dsimp only at hSw);go_simp<;>with_reducible rfl)
    (try simp only[Act.put,Aa,Ab,Ac])
    refine Aq (i:=11) (oi:=_) (v:=?_) rfl zF zF zF (fun _ _ _ h=>h) (Or.inl ⟨zR,?_⟩) zK ?_
    rotate_left
    ·(intro w hSw;(try dsimp only at hSw);go_simp<;>with_reducible rfl)
    (try simp only[Act.put,Aa,Ab,Ac])
    (try simp only[Ak,Ah,Af,Act.put,Aa,Ab,Ac])
    refine Bk (rs:=[12]) zF zM ?_
    refine Ba (o:=_) rfl (fun K hK=> ?_) AllReadyH.nil
    go_simp
    refine hK.out _ _ ?_ (fun hHeld=> ?_)
    ·exact SK.out _ zN
    clear hK K
    (try simp only[Act.put,Aa,Ab,Ac])
    (try simp only[Ak,Ah,Af,Act.put,Aa,Ab,Ac])
    refine FP zJ ?_ _
    have hbe:=HBQ.out
    go_wp2_with fail
    refine Ax (v:=.tuple #[.slice aD DD.length cD,.int .i64 ((n1:Int)-4-(DD.length:Int)),.bool gd,.agg #[.int .i64 s.k,.int .i64 f1]]) Z8 rfl ⟨aD,DD.length,cD,(n1:Int)-4-(DD.length:Int),by rw[HE.out.1,HE.out.2],fun e=> ?_,zA⟩
    obtain⟨e1,e2⟩:=HD.out e
    subst e1 e2
    refine⟨rfl,Am.mono (Am.keep HRQ.out fun q hq=> ?_) fun q hq=>⟨zC,by simp[World.setCell];omega⟩⟩
    repeat (rw[At _ _ _ _ zH])
def XJ(tk:Tk)(σ:FSt)(E:List EvX)(b:Bool)(k f:Int)(σ':FSt)(E':List EvX):Prop:=match tk with
 | .wait=>b=false∧k=0∧f=0∧σ'=σ∧E'=E
 | .take τ ev=>b=true∧k=0∧f=0∧σ'=τ∧E'=E++ev.map EvB.x
 | .bad k' f'=>b=false∧k'≠0∧k=k'∧f=f'∧σ'=σ∧E'=E
abbrev DG(w:World)(v v':Value):Prop:=∀q,v'.ownBlock=some q→v.ownBlock=some q∨w.heap.size≤q
def EZ(w:World)(g:Nat)(v vm vo:Value)(σ:FSt)(E:List EvX)(w':World)(b:Bool)(k f:Int):Prop:=
 ∃D' vm' vo' L' σ' E',By w' g D' v vm' vo' L' σ' E'∧DG w vm vm'∧DG w vo vo'∧Tch (fun q=>q=g∨vm.ownBlock=some q∨vo.ownBlock=some q) w w'∧XJ (Bm σ) σ E b k f σ' E'
def EJ(w:World)(g:Nat)(v vm vo:Value)(σ:FSt)(E:List EvX)(r:Ending)(w':World):Prop:=∃(b:Bool) (k f:Int),r=.returned (.tuple #[.bool b,.agg #[.int .i64 k,.int .i64 f]])∧EZ w g v vm vo σ E w' b k f
theorem EJ.mk{σ:FSt}{E:List EvX}{b:Bool}{k:Int}(h:EZ w g v vm vo σ E w' b k f):EJ w g v vm vo σ E (.returned (.tuple #[.bool b,.agg #[.int .i64 k,.int .i64 f]])) w':=⟨b,k,f,rfl,h⟩
theorem DG.refl:DG w v v:=fun q e=> .inl e
section
variable {w w':World} {g:Nat} {D:Nat→Prop} {v vm vo:Value} {L:C7} {σ:FSt} {E:List EvX}
theorem EZ.wait(h:By w g D v vm vo L σ E)(hb:Below w.heap.size w w')(hn:Bm σ=.wait):EZ w g v vm vo σ E w' false 0 0:=
 ⟨D,vm,vo,L,σ,E,h.later hb,DG.refl,DG.refl,Tch.AW hb,by rw[hn];exact⟨rfl,rfl,rfl,rfl,rfl⟩⟩
theorem EZ.bad(h:By w g D v vm vo L σ E)(hb:Below w.heap.size w w'){k:Int}(hk:k≠0)(hn:Bm σ=.bad k f):EZ w g v vm vo σ E w' false k f:=
 ⟨D,vm,vo,L,σ,E,h.later hb,DG.refl,DG.refl,Tch.AW hb,by rw[hn];exact⟨rfl,hk,rfl,rfl,rfl,rfl⟩⟩
end
theorem VA(w:World){g:Nat}{D:Nat→Prop}{v vm vo:Value}{L:C7}{σ:FSt}{E:List EvX}(h:By w g D v vm vo L σ E)(hn:Bm σ=.bad 9 0):
  Calls Tryz.prog 358 #[.pointer (some ⟨g,0,none⟩)] w fun r w'=>EJ w g v vm vo σ E r w':=by
 have HAT:=hid (Gp (w.alloc (.cells #[.int .i64 0,.int .i64 0] 65)) 9 0 zL)
 have HH:=hid h
 clear h
 go_enter Tryz.func358,Tryz.ntmps358
 go_wp2_with fail
 refine HAT.out.mono ?_
 rintro r w1 ⟨rfl,hb1⟩
 have F1:Blk w1 w.heap.size 65 #[.int .i64 0,.int .i64 0]:=Blk.later zD hb1
 obtain⟨q0,q1,g0,g1,lq⟩:=Bd F1
 have hbw1:Below w.heap.size w w1:=zA
 go_wp2_with fail
 have hbw2:Below w.heap.size w ((w1.setCell ⟨w.heap.size,0,none⟩ (.int .i64 9)).setCell ⟨w.heap.size,1,none⟩ (.int .i64 0)):=zA
 refine Ax (v:=.tuple #[.bool false,.agg #[.int .i64 9,.int .i64 0]]) (by simp[results,Tryz.results358,go_sem,q0,q1,lq]) rfl (EJ.mk (EZ.bad HH.out hbw2 zL hn))
theorem RJ(w:World){g:Nat}{D:Nat→Prop}{v vm vo:Value}{L:C7}{σ:FSt}{E:List EvX}(h:By w g D v vm vo L σ E)(hph:σ.ph=0)(hB:σ.buf.length≤1000000000):
  Calls Tryz.prog 92 #[.pointer (some ⟨g,0,none⟩)] w fun r w'=>EJ w g v vm vo σ E r w':=by
 obtain⟨aJ,cJ,rfl⟩:=h.buf.form
 obtain⟨R,hR⟩:∃R,R=(⟨0,0,0⟩:Rs).hdr σ.buf:=⟨_,rfl⟩
 obtain⟨s,x,e,b⟩:=R
 have hn:Bm σ=(if s.k=1 then .wait else if s.k≠0 then .bad s.k s.f else if x=3 then .take {σ with ph:=1,ep:=(e:Int)} [] else .bad 8 4):=by
  unfold Bm
  rw[Ag hph,←hR]
 have HG:=hid (Ts (w.alloc (.cells #[.int .i64 0,.int .i64 0] 65)) σ.buf aJ _ cJ (lift (Am.mono h.buf.read fun q hq=>hq.2) zA) hB hR.symm)
 have HH:=hid h
 have HN:=hid hn
 clear h hn hR
 obtain⟨f1,hf1⟩:∃f1:Int,f1=(if s.k=0 then 0 else s.f):=⟨_,rfl⟩
 rw[←hf1] at HG
 generalize (if s.k=0 then (s.p:Int) else 0)=n1 at HG
 have HF1:=hid hf1
 clear hf1
 go_enter Tryz.func92,Tryz.ntmps92
 obtain⟨y0,y1,y2,y3,y4,y5,y6,y7,y8,y9,y10,y11,y12,y13,y14,y15,y16,y17,y18,ly⟩:=Bo (HH.out.blk.alloc (.cells #[.int .i64 0,.int .i64 0] 65))
 go_wp2_with fail
 refine HG.out.mono ?_
 rintro r w1 ⟨rfl,hb1⟩
 have hbw1:Below w.heap.size w w1:=zA
 have F1:Blk w1 w.heap.size 65 #[.int .i64 0,.int .i64 0]:=Blk.later zD hb1
 have hz1:w.heap.size<w1.heap.size:=F1.lt
 have F2:Blk ((w1.alloc (.cells #[.int .i64 (x:Int),.int .u64 (e:Int),.int .u64 (b:Int)] 167)).alloc (.cells #[.int .i64 s.k,.int .i64 f1] 65)) w.heap.size 65 #[.int .i64 0,.int .i64 0]:=zD
 have K2:Blk ((w1.alloc (.cells #[.int .i64 (x:Int),.int .u64 (e:Int),.int .u64 (b:Int)] 167)).alloc (.cells #[.int .i64 s.k,.int .i64 f1] 65)) w1.heap.size 167 #[.int .i64 (x:Int),.int .u64 (e:Int),.int .u64 (b:Int)]:=zD
 have G2:Blk ((w1.alloc (.cells #[.int .i64 (x:Int),.int .u64 (e:Int),.int .u64 (b:Int)] 167)).alloc (.cells #[.int .i64 s.k,.int .i64 f1] 65)) (w1.heap.size+1) 65 #[.int .i64 s.k,.int .i64 f1]:=zD
 have hbw2:Below w.heap.size w ((w1.alloc (.cells #[.int .i64 (x:Int),.int .u64 (e:Int),.int .u64 (b:Int)] 167)).alloc (.cells #[.int .i64 s.k,.int .i64 f1] 65)):=zA
 have HF2:=hid F2
 have HK2:=hid K2
 have HG2:=hid G2
 have HBW:=hid hbw2
 clear y0 y1 y2 y3 y4 y5 y6 y7 y8 y9 y10 y11 y12 y13 y14 y15 y16 y17 y18 ly F1 F2 K2 G2 hb1 hbw1 hbw2
 go_upto_region 2 with (fail)
 generalize (w1.alloc (.cells #[.int .i64 (x:Int),.int .u64 (e:Int),.int .u64 (b:Int)] 167)).alloc (.cells #[.int .i64 s.k,.int .i64 f1] 65)=w2 at*
 have HH2:=hid (HH.out.later HBW.out)
 have HHB:=hid HH.out.dl
 obtain⟨q0,q1,q2,q3,lq⟩:=Bd HF2.out
 obtain⟨k0,k1,k2,lk⟩:=E5 HK2.out
 obtain⟨p0,p1,p2,p3,lp⟩:=Bd HG2.out
 have hbw:=HBW.out
 obtain⟨y0,y1,y2,y3,y4,y5,y6,y7,y8,y9,y10,y11,y12,y13,y14,y15,y16,y17,y18,ly⟩:=Bo HH2.out.blk
 have hgT:=HH.out.gl
 by_cases hk1:s.k=1
 ·have dk:(s.k==(1:Int))=true:=by simp[hk1]
  have HNN:Hid (Bm σ=.wait):=hid zB3
  clear hk1
  go_wp2_with fail
  have hbe:Below w.heap.size w ((w2.setCell ⟨w.heap.size,0,none⟩ (.int .i64 0)).setCell ⟨w.heap.size,1,none⟩ (.int .i64 0)):=zA
  refine Ax (v:=.tuple #[.bool false,.agg #[.int .i64 0,.int .i64 0]]) ZN rfl (EJ.mk (EZ.wait HH.out hbe HNN.out))
 ·have dk:(s.k==(1:Int))=false:=by simp[hk1]
  by_cases hk0:s.k=0
  ·have HFG:=hid (fun (V:World)=>(by have:=BK V s.k f1;rw[Ad hk0] at this;exact this:Calls Tryz.prog 65 #[.agg #[.int .i64 s.k,.int .i64 f1]] V fun r w'=>r=.returned (.bool true)∧Below V.heap.size V w'))
   have HN1:Hid (Bm σ=(if x=3 then .take {σ with ph:=1,ep:=(e:Int)} [] else .bad 8 4)):=hid (by rw[HN.out,Ai hk1,Ai (fun e=>e hk0)])
   clear hk1 hk0 HN
   go_wp2_with fail
   refine (HFG.out _).mono ?_
   rintro r w3 ⟨rfl,hb3⟩
   have HH3:=hid (HH2.out.later hb3)
   have HBW3:=hid (Aj hb3 hbw)
   have F3:=HF2.out.later hb3
   have K3:=HK2.out.later hb3
   clear y0 y1 y2 y3 y4 y5 y6 y7 y8 y9 y10 y11 y12 y13 y14 y15 y16 y17 y18 ly q0 q1 q2 q3 lq k0 k1 k2 lk p0 p1 p2 p3 lp hbw hb3 HH2 HF2 HK2 HG2
   obtain⟨y0,y1,y2,y3,y4,y5,y6,y7,y8,y9,y10,y11,y12,y13,y14,y15,y16,y17,y18,ly⟩:=Bo HH3.out.blk
   obtain⟨z0,z1,z2,z3,z4,z5,z6,z7,z8,z9,z10,z11,z12,z13,z14,z15,z16,z17,z18⟩:=Cw HH3.out.blk
   obtain⟨q0,q1,q2,q3,lq⟩:=Bd F3
   obtain⟨k0,k1,k2,lk⟩:=E5 K3
   have hbw:=HBW3.out
   by_cases hx:x=3
   ·have dx:((x:Int) !=(3:Int))=false:=by simp[hx]
    have HN2:Hid (Bm σ=.take {σ with ph:=1,ep:=(e:Int)} []):=hid (by rw[HN1.out,Ag hx])
    clear hx
    go_wp2_with fail
    have I1:By (w3.setCell ⟨g,5,none⟩ (.int .u64 (e:Int))) g D (.slice aJ σ.buf.length cJ) vm vo L {σ with ep:=(e:Int)} E:=HH3.out.Oo 5 _ (by have:=HH3.out.blk.set 5 (.int .u64 (e:Int));exact this) rfl rfl rfl
    have I2:By ((w3.setCell ⟨g,5,none⟩ (.int .u64 (e:Int))).setCell ⟨g,0,none⟩ (nxF 1)) g D (.slice aJ σ.buf.length cJ) vm vo L {σ with ph:=1,ep:=(e:Int)} E:=I1.Oo 0 _ (by have:=I1.blk.set 0 (nxF 1);exact this) rfl rfl rfl
    have I3:=I2.side (((Tch.refl (fun q=>q=w.heap.size) _).setCell (p:=⟨w.heap.size,0,none⟩) (fun _=>rfl) (.int .i64 0)).setCell (p:=⟨w.heap.size,1,none⟩) (fun _=>rfl) (.int .i64 0)) ZZ (fun b h1 h2 h3 e=>by have:=HHB.out b h2;omega)
    refine Ax (v:=.tuple #[.bool true,.agg #[.int .i64 0,.int .i64 0]]) ZN rfl (EJ.mk ⟨D,vm,vo,L,_,E,I3,DG.refl,DG.refl,?_,zBr⟩)
    refine Tch.setCell (Tch.setCell (Tch.setCell (Tch.setCell (Tch.AW hbw) (fun _=> .inl rfl) _) (fun _=> .inl rfl) _) (fun h=>ZR) _) (fun h=>ZR) _
   ·have dx:((x:Int) !=(3:Int))=true:=by simp;omega
    have HN2:Hid (Bm σ=.bad 8 4):=hid (by rw[HN1.out,Ai hx])
    have HAT:=hid (Gp w3 8 4 zL)
    clear hx
    go_wp2_with fail
    refine HAT.out.mono ?_
    rintro r w4 ⟨rfl,hb4⟩
    obtain⟨q0,q1,q2,q3,lq⟩:=Bd (F3.later hb4)
    have hbw4:=Aj hb4 hbw
    go_wp2_with fail
    have hbe:Below w.heap.size w ((w4.setCell ⟨w.heap.size,0,none⟩ (.int .i64 8)).setCell ⟨w.heap.size,1,none⟩ (.int .i64 4)):=zA
    refine Ax (v:=.tuple #[.bool false,.agg #[.int .i64 8,.int .i64 4]]) ZN rfl (EJ.mk (EZ.bad HH.out hbe zL HN2.out))
  ·have HFG:=hid (fun (V:World)=>(by have:=BK V s.k f1;rw[Ae hk0] at this;exact this:Calls Tryz.prog 65 #[.agg #[.int .i64 s.k,.int .i64 f1]] V fun r w'=>r=.returned (.bool false)∧Below V.heap.size V w'))
   have HN1:Hid (Bm σ=.bad s.k f1):=hid (by rw[HN.out,Ai hk1,Ag hk0,HF1.out,Ai hk0])
   have HK0:=hid hk0
   clear hk1 hk0 HN
   go_wp2_with fail
   refine (HFG.out _).mono ?_
   rintro r w3 ⟨rfl,hb3⟩
   have F3:=HF2.out.later hb3
   have G3:=HG2.out.later hb3
   have hbw3:=Aj hb3 hbw
   clear y0 y1 y2 y3 y4 y5 y6 y7 y8 y9 y10 y11 y12 y13 y14 y15 y16 y17 y18 ly q0 q1 q2 q3 lq k0 k1 k2 lk p0 p1 p2 p3 lp hbw hb3 HH2 HF2 HK2 HG2
   obtain⟨q0,q1,q2,q3,lq⟩:=Bd F3
   obtain⟨p0,p1,p2,p3,lp⟩:=Bd G3
   go_wp2_with fail
   go_region
   all_goals
    go_wp2
    refine Ax (v:=.tuple #[.bool false,.agg #[.int .i64 s.k,.int .i64 f1]]) ZN rfl (EJ.mk (EZ.bad HH.out zA HK0.out HN1.out))
theorem Qs(w:World){g:Nat}{D:Nat→Prop}{v vm vo:Value}{L:C7}{σ:FSt}{E:List EvX}(h:By w g D v vm vo L σ E)(hph:σ.ph=3)(hB:σ.buf.length≤1000000000)(hft:σ.foot≤1000000000):
  Calls Tryz.prog 339 #[.pointer (some ⟨g,0,none⟩)] w fun r w'=>EJ w g v vm vo σ E r w':=by
 obtain⟨aJ,cJ,rfl⟩:=h.buf.form
 have hn:Bm σ=(if σ.buf.length<12 then .wait else if σ.buf=CY σ.foot then .take {σ with ph:=4} [] else .bad 12 0):=by
  unfold Bm
  rw[Ai zC,Ai zC,Ai zC,Ag hph]
 have HH:=hid (h.later (show Below w.heap.size w (w.alloc (.cells #[.int .i64 0,.int .i64 0] 65)) by (repeat (first | with_reducible exact Below.refl _ _ | with_reducible assumption | (with_reducible refine Aw ?_ _) | (with_reducible refine Below.setCell ?_ zE _) | (with_reducible refine Below.drew ?_) | (with_reducible refine below_drewN ?_ _) | (refine Aj zG ?_)))))
 have hgT:=h.gl
 have HH0:=hid h
 have HHB:=hid h.dl
 have HN:=hid hn
 have HRD:=hid (Am.mono h.buf.read (S':=(·<w.heap.size)) fun q hq=>hq.2)
 have hbw0:Below w.heap.size w (w.alloc (.cells #[.int .i64 0,.int .i64 0] 65)):=zA
 have F1:Blk (w.alloc (.cells #[.int .i64 0,.int .i64 0] 65)) w.heap.size 65 #[.int .i64 0,.int .i64 0]:=Blk.new _ _ _
 have HF1:=hid F1
 clear h hn F1
 go_enter Tryz.func339,Tryz.ntmps339
 go_upto_region 1 with (fail)
 have hz1:w.heap.size<(w.alloc (.cells #[.int .i64 0,.int .i64 0] 65)).heap.size:=zM
 generalize w.alloc (.cells #[.int .i64 0,.int .i64 0] 65)=w1 at*
 obtain⟨y0,y1,y2,y3,y4,y5,y6,y7,y8,y9,y10,y11,y12,y13,y14,y15,y16,y17,y18,ly⟩:=Bo HH.out.blk
 have Y1:=fun s:AM w1=>s.cell y1
 have HS:=hid (fun W:World=>Jm W)
 by_cases h12:σ.buf.length<12
 ·have d1:decide ((σ.buf.length:Int)<(12:Int))=true:=Ad zC
  have HNN:Hid (Bm σ=.wait):=hid (by rw[HN.out,Ag h12])
  clear h12
  go_wp2_with fail
  refine Az zJ zJ ?_
  repeat (go_big_quiet_step (((go_at_call 156;exact GW (HS.out _)))))
  refine AT ?_
  rintro w2 ⟨⟨w2x,hb2⟩,rfl⟩
  have hbw2:=Aj hb2 hbw0
  obtain⟨q0,q1,q2,q3,lq⟩:=Bd (HF1.out.later hb2)
  clear y0 y1 y2 y3 y4 y5 y6 y7 y8 y9 y10 y11 y12 y13 y14 y15 y16 y17 y18 ly Y1
  go_wp2_with fail
  refine Ax (v:=.tuple #[.bool false,.agg #[.int .i64 0,.int .i64 0]]) Z7 rfl (EJ.mk (EZ.wait HH0.out zA HNN.out))
 ·have d1:decide ((σ.buf.length:Int)<(12:Int))=false:=Ae zC
  have HN1:Hid (Bm σ=(if σ.buf=CY σ.foot then .take {σ with ph:=4} [] else .bad 12 0)):=hid (by rw[HN.out,Ai h12])
  clear h12
  go_wp2_with fail
  refine Az zJ zJ ?_
  repeat (go_big_quiet_step (((go_at_call 156;exact GW (HS.out _)))))
  refine AT ?_
  rintro w2 ⟨⟨w2x,hb2⟩,rfl⟩
  have HH2:=hid (HH.out.later hb2)
  have HBW2:=hid (Aj hb2 hbw0)
  have HF2:=hid (HF1.out.later hb2)
  have hz2:=An hz1 hb2.size
  clear y0 y1 y2 y3 y4 y5 y6 y7 y8 y9 y10 y11 y12 y13 y14 y15 y16 y17 y18 ly Y1 hb2 HH HF1 hbw0
  obtain⟨y0,y1,y2,y3,y4,y5,y6,y7,y8,y9,y10,y11,y12,y13,y14,y15,y16,y17,y18,ly⟩:=Bo HH2.out.blk
  have SK:=hid (fun (w':World) (h:Blk w' g 83 #[nxF σ.ph,.slice aJ σ.buf.length cJ,.int .i64 (σ.first:Int),.int .i64 (σ.fed:Int),.int .i64 σ.ended,.int .u64 σ.ep,.int .u64 L.e,.int .u64 L.b,.slice L.a L.n L.c,vm,.int .u64 σ.want.ep,.int .i64 σ.want.n,.int .i64 σ.want.en,.int .u64 σ.want.first,.int .u64 σ.want.fin,.int .i64 σ.want.at_,.int .i64 σ.want.size,.int .i64 (σ.foot:Int),vo])=>(⟨h.cell 1,h.cell 17⟩:w'.cell? ⟨g,1,none⟩=some (.slice aJ σ.buf.length cJ)∧w'.cell? ⟨g,17,none⟩=some (.int .i64 (σ.foot:Int))))
  have HTR:=hid (fun V:World=>Jl σ.foot zC V)
  have HEQ:=hid (fun (V:World) (hV:Below w.heap.size w V) (x:Option Addr) (n c:Nat) (hx:Am.r (·<V.heap.size) V [.slice x n c] (CY σ.foot))=>Ju σ.buf (CY σ.foot) aJ x _ cJ n c V (lift HRD.out hV) hx)
  have hP3:=HH2.out.blk.drew
  go_wp2_with fail
  refine wp_region_held_drew (S:=fun w'=>w'.cell? ⟨g,1,none⟩=some (.slice aJ σ.buf.length cJ)∧w'.cell? ⟨g,17,none⟩=some (.int .i64 (σ.foot:Int))) zJ (SK.out _ HH2.out.blk) (fun hHeld=> ?_)
  refine Aq (i:=0) (oi:=_) (v:=?_) rfl zF zF zF (fun _ _ _ h=>h) (Or.inl ⟨zR,?_⟩) zK ?_
  rotate_left
  ·(intro w hSw;(try dsimp only at hSw);go_simp<;>with_reducible rfl)
  (try simp only[Act.put,Aa,Ab,Ac])
  refine Aq (i:=1) (oi:=_) (v:=?_) rfl zF zF zF (fun _ _ _ h=>h) (Or.inl ⟨zR,?_⟩) zK ?_
  rotate_left
  ·(intro w hSw;(try dsimp only at hSw);go_simp<;>with_reducible rfl)
  (try simp only[Act.put,Aa,Ab,Ac])
  refine Aq (i:=2) (oi:=_) (v:=?_) rfl zF zF zF (fun _ _ _ h=>h) (Or.inl ⟨zR,?_⟩) zK ?_
  rotate_left
  ·(intro w hSw;(try dsimp only at hSw);go_simp<;>with_reducible rfl)
  (try simp only[Act.put,Aa,Ab,Ac])
  refine Aq (i:=3) (oi:=_) (v:=?_) rfl zF zF zF (fun _ _ _ h=>h) (Or.inl ⟨zR,?_⟩) zK ?_
  rotate_left
  ·(intro w hSw;(try dsimp only at hSw);go_simp<;>with_reducible rfl)
  (try simp only[Act.put,Aa,Ab,Ac])
  refine Aq (i:=4) (oi:=_) (v:=?_) rfl zF zF zF (fun _ _ _ h=>h) (Or.inl ⟨zR,?_⟩) zK ?_
  rotate_left
  ·(intro w hSw;(try dsimp only at hSw);go_simp<;>with_reducible rfl)
  (try simp only[Act.put,Aa,Ab,Ac])
  refine Aq (i:=5) (oi:=_) (v:=?_) rfl zF zF zF (fun _ _ _ h=>h) (Or.inl ⟨zR,?_⟩) zK ?_
  rotate_left
  ·(intro w hSw;(try dsimp only at hSw);go_simp<;>with_reducible rfl)
  (try simp only[Act.put,Aa,Ab,Ac])
  refine Aq (i:=6) (oi:=_) (v:=?_) rfl zF zF zF (fun _ _ _ h=>h) (Or.inl ⟨zR,?_⟩) zK ?_
  rotate_left
  ·(intro w hSw;(try dsimp only at hSw);go_simp<;>with_reducible rfl)
  (try simp only[Act.put,Aa,Ab,Ac])
  refine Aq (i:=7) (oi:=_) (v:=?_) rfl zF zF zF (fun _ _ _ h=>h) (Or.inl ⟨zR,?_⟩) zK ?_
  rotate_left
  ·(intro w hSw;(try dsimp only at hSw);go_simp<;>with_reducible rfl)
  (try simp only[Act.put,Aa,Ab,Ac])
  (try simp only[Ak,Ah,Af,Act.put,Aa,Ab,Ac])
  have HBd:Hid (Below w.heap.size w w2.drew):=hid (Below.drew HBW2.out)
  have HHd:=hid (HH2.out.later (show Below w2.heap.size w2 w2.drew by (repeat (first | with_reducible exact Below.refl _ _ | with_reducible assumption | (with_reducible refine Aw ?_ _) | (with_reducible refine Below.setCell ?_ zE _) | (with_reducible refine Below.drew ?_) | (with_reducible refine below_drewN ?_ _) | (refine Aj zG ?_)))))
  have HFd:=hid HF2.out.drew
  generalize w2.drew=wd at*
  refine Bk (rs:=[8]) zF zM ?_
  refine Ba (o:=_) rfl (fun K hK=> ?_) AllReadyH.nil
  (go_simp;go_at_call 202;refine (HTR.out _).mono ?_;rintro r wq ⟨v8,rfl,hr8,hbq⟩;obtain⟨a8,c8,hv8,hr8',_⟩:=AH hr8;simp only[Av,AI] at hv8;subst hv8;have hPq:=hP3.later hbq;have HHq:=hid (HHd.out.later hbq);have HFq:=hid (HFd.out.later hbq);have HBQ:=hid (Aj hbq HBd.out);have HRq:=hid (Am.mono hr8' (S':=(·<wq.heap.size)) fun q hq=>hq.2))
  refine hK.out _ _ ?_ (fun hHeld=> ?_)
  ·exact SK.out _ zN
  clear hK K
  (try simp only[Act.put,Aa,Ab,Ac])
  (try simp only[Ak,Ah,Af,Act.put,Aa,Ab,Ac])
  refine Bk (rs:=[9]) zF zM ?_
  refine Ba (o:=_) rfl (fun K hK=> ?_) AllReadyH.nil
  (go_simp;go_at_call 201;refine (HEQ.out _ HBQ.out _ _ _ HRq.out).mono ?_;rintro r wr ⟨rfl,rfl⟩)
  refine hK.out _ _ ?_ (fun hHeld=> ?_)
  ·exact SK.out _ zN
  clear hK K
  (try simp only[Act.put,Aa,Ab,Ac])
  (try simp only[Ak,Ah,Af,Act.put,Aa,Ab,Ac])
  refine Aq (i:=10) (oi:=_) (v:=?_) rfl zF zF zF (fun _ _ _ h=>h) (Or.inl ⟨zR,?_⟩) zK ?_
  rotate_left
  ·(intro w hSw;(try dsimp only at hSw);go_simp<;>with_reducible rfl)
  (try simp only[Act.put,Aa,Ab,Ac])
  refine Aq (i:=11) (oi:=_) (v:=?_) rfl zF zF zF (fun _ _ _ h=>h) (Or.inl ⟨zR,?_⟩) zK ?_
  rotate_left
  ·(intro w hSw;(try dsimp only at hSw);go_simp<;>with_reducible rfl)
  (try simp only[Act.put,Aa,Ab,Ac])
  (try simp only[Ak,Ah,Af,Act.put,Aa,Ab,Ac])
  refine FP zJ ?_ _
  clear y0 y1 y2 y3 y4 y5 y6 y7 y8 y9 y10 y11 y12 y13 y14 y15 y16 y17 y18 ly hHeld
  obtain⟨y0,y1,y2,y3,y4,y5,y6,y7,y8,y9,y10,y11,y12,y13,y14,y15,y16,y17,y18,ly⟩:=Bo HHq.out.blk
  obtain⟨z0,z1,z2,z3,z4,z5,z6,z7,z8,z9,z10,z11,z12,z13,z14,z15,z16,z17,z18⟩:=Cw HHq.out.blk
  obtain⟨q0,q1,q2,q3,lq⟩:=Bd HFq.out
  have hbw:=HBQ.out
  by_cases he:σ.buf=CY σ.foot
  ·rw[Ad he]
   have HN2:Hid (Bm σ=.take {σ with ph:=4} []):=hid (by rw[HN1.out,Ag he])
   clear he
   go_wp2_with fail
   have I2:By (wq.setCell ⟨g,0,none⟩ (nxF 4)) g D (.slice aJ σ.buf.length cJ) vm vo L {σ with ph:=4} E:=HHq.out.Oo 0 _ (by have:=HHq.out.blk.set 0 (nxF 4);exact this) rfl rfl rfl
   have I3:=I2.side (((Tch.refl (fun q=>q=w.heap.size) _).setCell (p:=⟨w.heap.size,0,none⟩) (fun _=>rfl) (.int .i64 0)).setCell (p:=⟨w.heap.size,1,none⟩) (fun _=>rfl) (.int .i64 0)) ZZ (fun b h1 h2 h3 e=>by have:=HHB.out b h2;omega)
   refine Ax (v:=.tuple #[.bool true,.agg #[.int .i64 0,.int .i64 0]]) Z7 rfl (EJ.mk ⟨D,vm,vo,L,_,E,I3,DG.refl,DG.refl,?_,zBr⟩)
   refine Tch.setCell (Tch.setCell (Tch.setCell (Tch.AW hbw) (fun _=> .inl rfl) _) (fun h=>ZR) _) (fun h=>ZR) _
  ·rw[Ae he]
   have HN2:Hid (Bm σ=.bad 12 0):=hid (by rw[HN1.out,Ai he])
   have HAT:=hid (Gp wq 12 0 zL)
   clear he
   go_wp2_with fail
   refine HAT.out.mono ?_
   rintro r w4 ⟨rfl,hb4⟩
   obtain⟨q0,q1,q2,q3,lq⟩:=Bd (HFq.out.later hb4)
   have hbw4:=Aj hb4 hbw
   go_wp2_with fail
   have hbe:Below w.heap.size w ((w4.setCell ⟨w.heap.size,0,none⟩ (.int .i64 12)).setCell ⟨w.heap.size,1,none⟩ (.int .i64 0)):=zA
   refine Ax (v:=.tuple #[.bool false,.agg #[.int .i64 12,.int .i64 0]]) Z7 rfl (EJ.mk (EZ.bad HH0.out hbe zL HN2.out))
section
variable {w w':World} {g:Nat} {D:Nat→Prop} {v vm vo:Value} {L:C7} {σ τ:FSt} {E:List EvX}
theorem By.mark(h:By w g D v vm vo L σ E){m:AP}(hm:G5 m){vm':Value}(hown:w'.ownsRow (g+1) 88 3 vm' (σ.M.length+1) ((σ.M.map JW).flatten++JW m))(hgr:w.grownBy w' vm.ownBlock)(hat:vm'.ownBlock=vm.ownBlock∨vm'.ownBlock=some w.heap.size):
  By (w'.setCell ⟨g,9,none⟩ vm') g (fun q=>D q∨(w.heap.size≤q∧q<w'.heap.size)) v vm' vo L {σ with M:=σ.M++[m]} E:=by
 obtain⟨cells,hc⟩:=h.out
 have hgs:=hgr.size
 have hk:∀b,g<b→D b→vm.ownBlock≠some b→(w'.setCell ⟨g,9,none⟩ vm').heap[b]? =w.heap[b]? :=fun b h1 h2 h3=>
  (At _ _ _ _ zH).trans (hgr.block b (h.dl b h2) (fun e=>h3 e.symm))
 have hb':Dq w' (g+1) vm' (σ.M++[m]):=by
  refine⟨?_,fun x hx=> ?_⟩
  ·rw[Al,Cv,EK]
   simp only[Ca,List.map_nil,FU,List.flatten_nil,Bu]
   exact hown
  ·rcases List.mem_append.1 hx with hx | hx
   ·exact h.mks.nat x hx
   ·rw[B8] at hx;subst hx;exact hm
 have hn:∀b,D b→vm.ownBlock≠some b→vm'.ownBlock≠some b:=fun b h1 h2 e=>by
  rcases hat with e1 | e1
  ·exact h2 (e1 ▸ e)
  ·rw[e1] at e
   have:=AR e
   have:=h.dl b h1
   omega
 have hz:(w'.setCell ⟨g,9,none⟩ vm').heap.size=w'.heap.size:=zU
 refine⟨?_,h.last,?_,?_,⟨cells,(hc.keep (fun b e=>hk b e.1 e.2.1 e.2.2.2) (fun q e=>hk q (h.oq q e).1 (h.oT q e) (fun e2=>h.WR q e2 e))).mono fun b e=>⟨e.1,.inl e.2.1,e.2.2.1,hn b e.2.1 e.2.2.2⟩⟩,?_,fun q e=> .inl (h.vT q e),?_,fun q e=> .inl (h.oT q e)⟩
 ·have hgb:some g≠vm.ownBlock:=fun e=>by have:=(h.mq g e.symm).1;omega
  have:=((h.blk.grown hgr hgb).set 9 vm')
  exact this
 ·exact h.buf.Fg fun q e=>hk q (h.vq q e).1 (h.vT q e) (fun e2=>h.YM q e e2)
 ·exact hb'.Fg fun q e=>At _ _ _ _ (by have:=(BP hb'.own q e).1;dsimp only;omega)
 ·intro q e
  rw[hz]
  rcases e with e | e
  ·exact An (h.dl q e) hgs
  ·exact e.2
 ·intro q e
  rcases hat with e1 | e1
  ·exact .inl (h.mT q (e1 ▸ e))
  ·have:=(BP hb'.own q e).2
   rw[e1] at e
   have:=AR e
   exact .inr ⟨zC,zC⟩
theorem By.XU(h:By w g D v vm vo L σ E)(x:Batch)(a:Option Addr)(c:Nat):By (((w.setCell ⟨g,6,none⟩ (.int .u64 x.epoch)).setCell ⟨g,7,none⟩ (.int .u64 x.base)).setCell ⟨g,8,none⟩ (.slice a x.entries.length c)) g D v vm vo ⟨x.epoch,x.base,a,x.entries.length,c⟩ {σ with l:=σ.l++[x]} E:=by
 obtain⟨cells,hc⟩:=h.out
 have hk:∀b,g<b→(((w.setCell ⟨g,6,none⟩ (.int .u64 x.epoch)).setCell ⟨g,7,none⟩ (.int .u64 x.base)).setCell ⟨g,8,none⟩ (.slice a x.entries.length c)).heap[b]? =w.heap[b]? :=fun b hb=>by
  repeat rw[At _ _ _ _ zH]
 refine⟨?_,?_,h.buf.Fg fun q e=>hk q (h.vq q e).1,h.mks.Fg fun q e=>hk q (h.mq q e).1,⟨cells,hc.keep (fun b e=>hk b e.1) (fun q e=>hk q (h.oq q e).1)⟩,fun q e=>zAv,h.vT,h.mT,h.oT⟩
 ·have:=((h.blk.set 6 (.int .u64 x.epoch)).set 7 (.int .u64 x.base)).set 8 (.slice a x.entries.length c)
  exact this
 ·intro y hy
  rw[List.getLast?_append] at hy
  simp at hy
  subst hy
  exact⟨rfl,rfl,rfl⟩
theorem By.tell(h:By w g D v vm vo L σ E){cells:List (List Value)}(hc:AY (fun q=>g+1≤q∧D q∧v.ownBlock≠some q∧vm.ownBlock≠some q) IV (g+1) 50 20 w vo E cells){news:List Value}{x:EvX}(hn:news.length=20)
 (hx:IV.r (fun q=>(g+1≤q∧D q∧v.ownBlock≠some q∧vm.ownBlock≠some q)∧vo.ownBlock≠some q) w news x) {vo':Value}
 (hown:w'.ownsRow (g+1) 50 20 vo' (E.length+1) (cells.flatten++news)) (hgr:w.grownBy w' vo.ownBlock) (hat:vo'.ownBlock=vo.ownBlock∨vo'.ownBlock=some w.heap.size):By (w'.setCell ⟨g,18,none⟩ vo') g (fun q=>D q∨(w.heap.size≤q∧q<w'.heap.size)) v vm vo' L σ (E++[x]):=by
 have hgs:=hgr.size
 have hlo:=BP hc.1
 have hk:∀b,g<b→D b→vo.ownBlock≠some b→(w'.setCell ⟨g,18,none⟩ vo').heap[b]? =w.heap[b]? :=fun b h1 h2 h3=>
  (At _ _ _ _ zH).trans (hgr.block b (h.dl b h2) (fun e=>h3 e.symm))
 have hp:=hc.push (fun b e=>h.dl b e.2.1) hn hx hown hgr hat
 have hlo':=BP hown
 have hz:(w'.setCell ⟨g,18,none⟩ vo').heap.size=w'.heap.size:=zU
 refine⟨?_,h.last,h.buf.Fg fun q e=>hk q (h.vq q e).1 (h.vT q e) (h.Wg q e),h.mks.Fg fun q e=>hk q (h.mq q e).1 (h.mT q e) (h.WR q e),⟨_,(hp.keep (w':=w'.setCell ⟨g,18,none⟩ vo') (fun b e=>At _ _ _ _ (by have:=e.1;dsimp only;omega)) (fun q e=>At _ _ _ _ (by have:=(hlo' q e).1;dsimp only;omega))).mono fun b e=>⟨e.1,.inl e.2.1,e.2.2⟩⟩,?_,fun q e=> .inl (h.vT q e),fun q e=> .inl (h.mT q e),?_⟩
 ·have hgb:some g≠vo.ownBlock:=fun e=>by have:=(h.oq g e.symm).1;omega
  have:=((h.blk.grown hgr hgb).set 18 vo')
  exact this
 ·intro q e
  rw[hz]
  rcases e with e | e
  ·exact An (h.dl q e) hgs
  ·exact e.2
 ·intro q e
  rcases hat with e1 | e1
  ·exact .inl (h.oT q (e1 ▸ e))
  ·have:=(hlo' q e).2
   rw[e1] at e
   have:=AR e
   exact .inr ⟨zC,zC⟩
end
end Go.Proofs.YtfddhafbhceoaaaGreat
namespace Go.Bs
open Go.RowKit
variable{n sz:Nat}{S:Nat → Prop}{a:Option Addr}{w:World}
theorem AY.app{α:Type}{w w':World}{F:Nat→Prop}{A:Rp α}{base:Nat}{e:TypeId}{sz:Nat}{v v':Value}{xs ys:List α}{news:List (List Value)}{cells:List (List Value)}(h:AY F A base e sz w v xs cells)(hF:∀b,F b→b<w.heap.size)
 (hl:news.length=ys.length) (hn:∀c∈news,c.length=sz) (hx:∀(i:Nat) cs y,news[i]? =some cs→ys[i]? =some y→A.r (fun b=>F b∧v.ownBlock≠some b) w cs y)
 (hown:w'.ownsRow base e sz v' (xs.length+ys.length) (cells.flatten++news.flatten)) (hg:w.grownBy w' v.ownBlock) (hat:v'.ownBlock=v.ownBlock∨v'.ownBlock=some w.heap.size):AY F A base e sz w' v' (xs++ys) (cells++news):=by
 obtain⟨ho,hlen,hsz,hA⟩:=h
 have lift:∀cs y,A.r (fun b=>F b∧v.ownBlock≠some b) w cs y→A.r (fun b=>F b∧v'.ownBlock≠some b) w' cs y:=fun cs y hr=>
  A.mono (A.keep hr fun b hb=>hg.block b (hF b hb.1) (fun e=>hb.2 e.symm)) fun b hb=>⟨hb.1,fun e=>by
   rcases hat with h | h
   ·exact hb.2 (h ▸ e)
   ·rw[h] at e;have:=AR e;have:=hF b hb.1;omega⟩
 refine⟨?_,by simp[hlen,hl],?_,?_⟩
 ·rw[EK,Al]
  exact hown
 ·intro c hc
  rcases List.mem_append.1 hc with h | h
  ·exact hsz c h
  ·exact hn c h
 ·intro i cs y hi hy
  by_cases hlt:i<xs.length
  ·rw[Cp zC] at hi
   rw[Cp hlt] at hy
   exact lift _ _ (hA i cs y hi hy)
  ·rw[CP zC,hlen] at hi
   rw[CP zC] at hy
   exact lift _ _ (hx _ _ _ hi hy)
theorem Wt{α:Type}{A:Rp α}{c:Nat}{xs:List α}(h:(rSl sz A).r S w [.slice a n c] xs)(hone:∀cs x,A.r S w cs x→∀u∈cs,u.oneCell'=true):
  ∃cells:List (List Value),cells.length=xs.length∧(∀c∈cells,c.length=sz)∧(∀(i:Nat) cs x,cells[i]? =some cs→xs[i]? =some x→A.r S w cs x)∧(∀w':World,(∀q,S q→w'.heap[q]? =w.heap[q]?)→Src w' a xs.length sz cells.flatten)∧∀u∈cells.flatten,u.oneCell'=true:=by
 obtain⟨a',c',e,h1,h2,h3⟩:=h
 simp at e
 obtain⟨rfl,rfl,rfl⟩:=e
 rcases h3 with rfl | ⟨b,off,rfl,hS,hr⟩
 ·exact⟨[],rfl,zM,zM,fun _ _=>⟨zM,.inl rfl⟩,zM⟩
 ·have hc:∀i:Fin xs.length,∃cs:List Value,cs.length=sz∧(∀j v,cs[j]? =some v→w.cell? ⟨b,off+i.1*sz+j,none⟩=some v)∧A.r S w cs xs[i]:=fun i=>hr i.1 xs[i] (AF i.2)
  obtain⟨f,hf⟩:=Classical.axiomOfChoice hc
  have hlen:∀c∈List.ofFn f,c.length=sz:=fun c hc=>by
   obtain⟨i,rfl⟩:=List.mem_ofFn.1 hc
   exact (hf i).1
  refine⟨List.ofFn f,zM,hlen,fun i cs x hi hx=> ?_,fun w' hkp=>⟨?_,.inr ⟨b,off,rfl,fun j u hu=> ?_⟩⟩,fun u hu=> ?_⟩
  ·have hil:=(List.getElem?_eq_some_iff.1 hx).1
   rw[List.getElem?_ofFn,dif_pos hil] at hi
   injection hi with hi
   subst hi
   rw[AF hil] at hx
   injection hx with hx
   subst hx
   exact (hf ⟨i,hil⟩).2.2
  ·rw[Jn sz _ hlen];simp
  ·have hj:=(List.getElem?_eq_some_iff.1 hu).1
   rw[Jn sz _ hlen,List.length_ofFn] at hj
   have hs0:0<sz:=by exact (DR sz).elim (fun h=>by subst h;simp at hj) id
   have hi:j/sz<xs.length:=by rw[Nat.div_lt_iff_lt_mul hs0];exact hj
   have hk:j%sz<(f ⟨j/sz,hi⟩).length:=by rw[(hf _).1];exact Nat.mod_lt _ hs0
   have e2:=GX sz (List.ofFn f) hlen (j/sz) (j%sz) (f ⟨j/sz,hi⟩) _ (by rw[List.getElem?_ofFn,dif_pos hi]) (AF hk)
   have e3:j/sz*sz+j%sz=j:=by rw[Lj];exact Nat.div_add_mod j sz
   rw[e3,hu] at e2
   have e4:=(hf ⟨j/sz,hi⟩).2.1 (j%sz) u (by rw[AF hk,←e2])
   rw[show off+j=off+j/sz*sz+j%sz by omega]
   exact (Bq (a:=⟨b,off+j/sz*sz+j%sz,none⟩) (hkp b hS)).trans e4
  ·obtain⟨c,hc,hu⟩:=List.mem_flatten.1 hu
   obtain⟨i,rfl⟩:=List.mem_ofFn.1 hc
   exact hone _ _ (hf i).2.2 u hu
end Go.Bs
namespace Go.Proofs.YtfddhafbhceoaaaGreat
open Go.RowKit Go.Bs Go.Maps
variable{f:Int}{P:List UInt8}{g:Nat}{s:Rs}{t:TypeId}{v vm vo:Value}{w w':World}
theorem YD{blk:List UInt8→Rs→Rs × List UInt8 × Bool}(hb:Wc blk)(hs:s.ok P.length):inU (Rs.batch P (blk P) s).2.1.epoch∧inU (Rs.batch P (blk P) s).2.1.base:=by
 by_cases h:(Rs.batch P (blk P) s).1.k=0
 ·obtain⟨_,h2,_⟩:=Rs.Hs hs h (fun t=>hb.k P t) (fun t=>hb.len P t)
  exact⟨h2.1,h2.2.1⟩
 ·rw[Rs.N8 h]
  exact⟨by unfold inU Dp;decide,by unfold inU Dp;decide⟩
theorem XG{blk:List UInt8→Rs→Rs × List UInt8 × Bool}(hb:Wc blk)(hs:s.ok P.length):(Rs.batch P (blk P) s).2.1.base+(Rs.batch P (blk P) s).2.1.entries.length≤18446744073709551615:=by
 by_cases h:(Rs.batch P (blk P) s).1.k=0
 ·obtain⟨h1,_,_⟩:=Rs.Hs hs h (fun t=>hb.k P t) (fun t=>hb.len P t)
  have:=(EY h1).2.2.2.2.1
  omega
 ·rw[Rs.N8 h]
  unfold Dp
  decide
theorem Oi{k a:Int}(h:(s.within k f a).k=0):k=0:=by
 unfold Rs.within at h
 split at h
 ·assumption
 ·unfold Rs.fail at h
  split at h
  ·exact h
  ·rename_i h1
   exact absurd h h1
def Oc(u:Rs)(l:List Batch)(ep:Int)(x:Batch)(fi:Nat):Rs:=if u.k=0 then (if l.length=16 then u.fail 2 fi else if EU ep (Ce l l.length) x=true then u else u.fail 13 fi) else u
end Go.Proofs.YtfddhafbhceoaaaGreat
