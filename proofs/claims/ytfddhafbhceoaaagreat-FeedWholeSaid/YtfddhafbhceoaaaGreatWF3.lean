/- Mini: Needed by feedNone_walk, part 3: texts put together by shake.py; no condition. -/
import Derived.Test.YtfddhafbhceoaaaGreatWF1
import Derived.Test.YtfddhafbhceoaaaGreatWF2
import Derived.Deep.RegionHeld3
import Derived.IntWalk
import Derived.ScopeJumps
import Derived.WalkMore
import Derived.Deep.Cut
set_option linter.unusedVariables false
set_option linter.unusedSimpArgs false
set_option maxRecDepth 100000
set_option maxHeartbeats 6400000
namespace Go.Bs
theorem zBq{p:Prop}(h:p:=by rw [← hDm]; exact Am.mono hsub fun q hq => hq.1):p:=h
theorem zBi{p:Prop}(h:p:=by have := HBP.out HK.out; omega):p:=h
theorem zAg{p:Prop}(h:p:=by first | rfl | simp):p:=h
theorem ZR{p:Prop}(h:p:=by dsimp only at h; omega):p:=h
theorem ZP{p:Prop}(h:p:=by { have e' : some w.heap.size = some g := e; injection e' with e'; omega }):p:=h
theorem zW{p:Prop}(h:p:=by rw [HDM.out]; exact HSB.out _ (by (repeat (first | exact Below.refl _ _ | assumption | (refine Aw ?_ _) | (refine Below.setCell ?_ (by first | omega | (simp; done) | (simp; omega)) _) | (refine Below.drew ?_) | (refine below_drewN ?_ _) | (refine Aj (by assumption) ?_))))):p:=h
theorem zR{p:Prop}(h:p:=by rfl):p:=h
theorem zF{p:Prop}(h:p:=by decide +kernel):p:=h
theorem Aa:type_of% @List.setIfInBounds_toArray:=@List.setIfInBounds_toArray
theorem Ab:type_of% @List.set_cons_zero:=@List.set_cons_zero
theorem Ac:type_of% @List.set_cons_succ:=@List.set_cons_succ
theorem Aq:type_of% @wpAnyH_take:=@wpAnyH_take
theorem Av:type_of% @List.cons.injEq:=@List.cons.injEq
theorem Ba:type_of% @AllReadyH.cons:=@AllReadyH.cons
theorem Bk:type_of% @wpAnyH_ready:=@wpAnyH_ready
theorem Bu:type_of% @List.append_nil:=@List.append_nil
theorem BL:type_of% @beq_eq_false_iff_ne:=@beq_eq_false_iff_ne
theorem FP:type_of% @wpAnyH_done:=@wpAnyH_done
theorem FQ:type_of% @Nat.pow_succ:=@Nat.pow_succ
theorem GG:type_of% @List.drop_eq_nil_of_le:=@List.drop_eq_nil_of_le
theorem Ih:type_of% @List.getD_eq_getElem?_getD:=@List.getD_eq_getElem?_getD
end Go.Bs
namespace Go.Proofs.YtfddhafbhceoaaaGreat
open Go.RowKit Go.Bs Go.Maps
variable{bound m:Int}{B l:List UInt8}{L base c g hi i k n off sz:Nat}{S:Nat → Prop}{a:Option Addr}{t:TypeId}{v v0 v1:Value}{w:World}
def Lp:Rp Tok:=rBy (fun t=>(t.lit,t.off,t.len)) (Dr Am (Dr (F6 .i64) (F6 .i64)))
def QY:Rp (List Tok):=rSl 3 Lp
theorem IA{n:Int}(h: -9223372036854775808≤n∧n≤9223372036854775807):(Lit.int .i64 n).wf=true:=by
 simp[Lit.wf,IntKind.min,IntKind.max,IntKind.signed,IntKind.bits];omega
theorem Wm{x:Tok}(h:Am.r S w [v] x.lit)(h1: -9223372036854775808≤x.off∧x.off≤9223372036854775807)(h2: -9223372036854775808≤x.len∧x.len≤9223372036854775807):Lp.r S w [v,.int .i64 x.off,.int .i64 x.len] x:=
 ⟨[_],[_,_],rfl,h,[_],[_],rfl,⟨rfl,IA h1⟩,rfl,IA h2⟩
theorem Un:(Tryz.prog.info? 304).map (fun i=>(i.zero,i.size,i.bytes))=some (some (.agg #[.slice none 0 0,.int .i64 0,.int .i64 0]),3,40):=zJ
theorem PN{α:Type}{A:Rp α}{xs:List α}{b:Nat}(h:(rSl sz A).r S w [.slice (some ⟨b,off,none⟩) n c] xs)(hk:k≤xs.length):(rSl sz A).r S w [.slice (some ⟨b,off+k*sz,none⟩) (n-k) (c-k)] (xs.drop k):=by
 obtain⟨a',c',e,h1,h2,h3⟩:=h
 simp at e
 obtain⟨rfl,rfl,rfl⟩:=e
 refine Bv (a:=some ⟨b,off+k*sz,none⟩) (c:=c-k) zM zI zC ?_
 rcases h3 with rfl | ⟨b',off',e',hS,hr⟩
 ·exact .inl zM
 ·simp at e'
  obtain⟨rfl,rfl⟩:=e'
  refine .inr ⟨b,off+k*sz,rfl,hS,fun i x hi=> ?_⟩
  rw[List.getElem?_drop] at hi
  obtain⟨cs,h4,h5,h6⟩:=hr (k+i) x hi
  refine⟨cs,h4,fun j v hj=> ?_,h6⟩
  have:=h5 j v hj
  rw[show off+k*sz+i*sz+j=off+(k+i)*sz+j by rw[Nat.add_mul];omega]
  exact this
def QI(w:World)(bo lo:Nat)(F:Nat→Prop)(v:Value)(L':List Tok)(r:Ending)(w':World):Prop:=r=.returned (.tuple #[])∧
 ∃av' cv' cells',Blk w' bo 337 #[.slice av' L'.length cv']∧AY (fun q=>F q∨(w.heap.size≤q∧q<w'.heap.size)) Lp lo 304 3 w' (.slice av' L'.length cv') L' cells'∧Tch (fun q=>q=bo∨v.ownBlock=some q) w w'∧((Value.slice av' L'.length cv').ownBlock=v.ownBlock∨∃q,(Value.slice av' L'.length cv').ownBlock=some q∧w.heap.size≤q)
theorem OS(w:World){bf bo bb lo:Nat}{F:Nat→Prop}{b:List UInt8}{a:Option Addr}{c i to:Nat}{av:Option Addr}{cv:Nat}{L:List Tok}{cells:List (List Value)}
 (hf:Blk w bf 3 #[.int .i64 (i:Int)]) (ho:Blk w bo 337 #[.slice av L.length cv]) (hb:Blk w bb 22 #[.slice a b.length c]) (hl:Am.r (fun q=>q<w.heap.size) w [.slice a b.length c] b)
 (hown:AY F Lp lo 304 3 w (.slice av L.length cv) L cells) (hF:∀q,F q→q<w.heap.size) (hFo:¬F bo) (hoo:(Value.slice av L.length cv).ownBlock≠some bo)
 (hne:bo≠bf∧bo≠bb∧(Value.slice av L.length cv).ownBlock≠some bf∧(Value.slice av L.length cv).ownBlock≠some bb) (hto:to≤b.length) (hlen:b.length≤1048576) (hL:L.length≤2097152) (hlo:lo≤w.heap.size):
  Calls Tryz.prog 372 #[.int .i64 (to:Int),.pointer (some ⟨bf,0,none⟩),.pointer (some ⟨bo,0,none⟩),.pointer (some ⟨bb,0,none⟩)] w (QI w bo lo F (.slice av L.length cv) (L++GA b i to)):=by
 have f0:w.cell? ⟨bf,0,none⟩=some (.int .i64 (i:Int)):=hf.cell 0
 by_cases hit:i<to
 ·have hlit:GA b i to=[⟨(b.drop i).take (to-i),0,0⟩]:=by unfold GA;rw[Ag hit]
  obtain⟨ga,oa,hA,hga,_⟩:=Dg hl (i:=i) zC
  subst hA
  obtain⟨_,_,hlc,hcm⟩:=AL hl
  obtain⟨i0,hi0,hz0,hz1,hz2⟩:=A5 FL
  obtain⟨j0,hj0,hy0,hy1,hy2⟩:=A5 Un
  have o0:w.cell? ⟨bo,0,none⟩=some (.slice av L.length cv):=ho.cell 0
  have b0:w.cell? ⟨bb,0,none⟩=some (.slice (some ⟨ga,oa,none⟩) b.length c):=hb.cell 0
  have of:=ho.free 0
  have lf:=hf.lt;have lo':=ho.lt;have lb:=hb.lt
  have hsub:Hid (Am.r (fun q=>q<w.heap.size) w [.slice (some ⟨ga,oa+i,none⟩) (to-i) (c-i)] ((b.drop i).take (to-i))):=hid (by
   have h1:=PN hl (k:=i) zC
   rw[E3] at h1
   exact MA h1 zI)
  have hsl':((b.drop i).take (to-i)).length=to-i:=zI
  generalize hD:(b.drop i).take (to-i)=D at*
  clear hD
  have HLIT:=hid hlit;have HSL:=hid hsl'
  have hds:Hid (to-i=D.length):=hid hsl'.symm
  have HS:=hid (fun (W:World) (hW:Below w.heap.size w W)=>Cm (l:=D) (lift (w:=w) (A:=Am) (by have:=hsub.out;rw[hds.out] at this;exact this) hW))
  have HONE:=hid (Bi D)
  have hsl:∀w':World,(Instr.slice 22 (.slice (some ⟨ga,oa,none⟩) b.length c) (some (.int .i64 (i:Int))) (some (.int .i64 (to:Int))) none).run Tryz.prog w'=.ok (.slice (some ⟨ga,oa+i,none⟩) D.length (c-i)) w':=fun w'=>by
   rw[←hds.out]
   have g1:(0:Int)≤(i:Int):=zC
   have g2:(i:Int)≤(to:Int):=zC
   have g3:(to:Int)≤(c:Int):=zC
   have g4:¬c=i:=zC
   go_simp
  have HF:=hid hF;have HFO:=hid hFo;have HOO:=hid hoo;have HOWN:=hid hown
  have HHO:=hid ho
  have lenD:D.length≤1048576:=zC
  have g1:(0:Int)≤(i:Int):=zC
  have g2:(i:Int)≤(to:Int):=zC
  have g3:(to:Int)≤(c:Int):=zC
  have g4:(to:Int)≤(b.length:Int):=zC
  have d1:decide ((i:Int)<(to:Int))=true:=zI
  have d1':decide (i<to)=true:=zI
  obtain⟨ne1,ne2,ne3,ne4⟩:=hne
  clear hF hFo hoo hown ho hb hl hf hlit hsl' hsub hds
  go_enter Tryz.func372,Tryz.ntmps372
  go_wp2_with fail
  refine BQ (fun w'=>w'.cell? ⟨bf,0,none⟩=some (.int .i64 (i:Int))∧w'.cell? ⟨bo,0,none⟩=some (.slice av L.length cv)∧w'.cell? ⟨bb,0,none⟩=some (.slice (some ⟨ga,oa,none⟩) b.length c)) _ zJ rfl zJ ⟨f0,o0,b0⟩ (fun hHeld=> ?_)
  simp only[BD,FG]
  refine Aq (i:=0) (oi:=_) (v:=?_) rfl zF zF zF (fun _ _ _ h=>h) (Or.inl ⟨zR,?_⟩) zK ?_
  rotate_left
  ·(intro w hSw;(try dsimp only at hSw);go_simp<;>with_reducible rfl)
  (try simp only[Act.put,Aa,Ab,Ac])
  refine Aq (i:=2) (oi:=_) (v:=?_) rfl zF zF zF (fun _ _ _ h=>h) (Or.inl ⟨zR,?_⟩) zK ?_
  rotate_left
  ·(intro w hSw;(try dsimp only at hSw);go_simp<;>with_reducible rfl)
  (try simp only[Act.put,Aa,Ab,Ac])
  refine Aq (i:=3) (oi:=_) (v:=?_) rfl zF zF zF (fun _ _ _ h=>h) (Or.inl ⟨zR,?_⟩) zK ?_
  rotate_left
  ·(intro w hSw;(try dsimp only at hSw);go_simp<;>with_reducible rfl)
  (try simp only[Act.put,Aa,Ab,Ac])
  refine Aq (i:=4) (oi:=_) (v:=?_) rfl zF zF zF (fun _ _ _ h=>h) (Or.inl ⟨zR,?_⟩) zK ?_
  rotate_left
  ·(intro w hSw;(try dsimp only at hSw);go_simp<;>with_reducible rfl)
  (try simp only[Act.put,Aa,Ab,Ac])
  refine Aq (i:=5) (oi:=_) (v:=?_) rfl zF zF zF (fun _ _ _ h=>h) (Or.inl ⟨zR,?_⟩) zK ?_
  rotate_left
  ·(intro w hSw;(try dsimp only at hSw);go_simp<;>with_reducible rfl)
  (try simp only[Act.put,Aa,Ab,Ac])
  refine Bk (rs:=[1]) zF zM ?_
  refine Ba (o:=_) rfl (fun K hK=> ?_) AllReadyH.nil
  go_simp
  refine hK.out _ _ ?_ (fun hHeld=> ?_)
  ·((try dsimp only);refine⟨?_,?_,?_⟩<;>(first | assumption | (go_keep;done)))
  clear hK K
  (try simp only[Act.put,Aa,Ab,Ac])
  refine Bk (rs:=[6]) zF zM ?_
  refine Ba (o:=_) rfl (fun K hK=> ?_) AllReadyH.nil
  (refine CL zR _ _ _ zR w.heap.size 5 i0 (.int .u8 0) 1 1 AJ hi0 hz0 hz1 hz2 rfl zL _ 0 [] zR (EO _ zM zR) (some ⟨ga,oa+i,none⟩) D.length (c-i) (byteCells D) zR (HS.out _ zB) HONE.out zO zC zM ?_;intro a5 c5 w5 hown5 hgrow5 hat5;rw[A7] at hown5;have k5:Below w.heap.size w w5:=Below.grown zB hgrow5 zM (fun g e=>ZP);have e0:=(k5.cell (p:=⟨bf,0,none⟩) lf).trans f0;have e1:=(k5.cell (p:=⟨bo,0,none⟩) lo').trans o0;have e2:=(k5.cell (p:=⟨bb,0,none⟩) lb).trans b0;have HK5:=hid k5;have HG5:=hid hgrow5;have HO5:=hid hown5;have HA5:=hid hat5;have hs5:w.heap.size+1≤w5.heap.size:=(by have:=hgrow5.size;simpa using this);clear hown5 hgrow5 hat5 k5)
  refine hK.out _ _ ?_ (fun hHeld=> ?_)
  ·((try dsimp only);refine⟨?_,?_,?_⟩<;>(first | assumption | (go_keep;done)))
  clear hK K
  (try simp only[Act.put,Aa,Ab,Ac])
  refine Aq (i:=7) (oi:=_) (v:=?_) rfl zF zF zF (fun _ _ _ h=>h) (Or.inl ⟨zR,?_⟩) zK ?_
  rotate_left
  ·(intro w hSw;(try dsimp only at hSw);go_simp<;>with_reducible rfl)
  (try simp only[Act.put,Aa,Ab,Ac])
  refine Bk (rs:=[8]) zF zM ?_
  refine Ba (o:=_) rfl (fun K hK=> ?_) AllReadyH.nil
  go_simp
  refine hK.out _ _ ?_ (fun hHeld=> ?_)
  ·((try dsimp only);refine⟨?_,?_,?_⟩<;>(first | assumption | (go_keep;done)))
  clear hK K
  (try simp only[Act.put,Aa,Ab,Ac])
  refine Bk (rs:=[9]) zF zM ?_
  refine Ba (o:=_) rfl (fun K hK=> ?_) AllReadyH.nil
  (refine CL zR _ _ _ zR lo 304 j0 (.agg #[.slice none 0 0,.int .i64 0,.int .i64 0]) 3 40 Tryz.underlying337 hj0 hy0 hy1 hy2 rfl zL (.slice av L.length cv) L.length cells.flatten zR (Bz (Bz HOWN.out.1 HK5.out) zB) (some ⟨w5.heap.size,0,none⟩) 1 1 [.slice a5 D.length c5,.int .i64 0,.int .i64 0] zR (BU w5 304 _ zR zR rfl) (by intro u hu;simp at hu;rcases hu with rfl | rfl | rfl<;>rfl) zO zC zI ?_;intro a8 c8 w8 hown8 hgrow8 hat8;have G:=fun b' (hb:b'<w.heap.size) (hne:(Value.slice av L.length cv).ownBlock≠some b')=>(hgrow8.block b' zI (fun e=>hne e.symm)).trans ((AN w5 _ b' zC).trans (HK5.out.block b' hb));have m1:=(Bq (a:=⟨bo,0,none⟩) (G bo lo' HOO.out)).trans o0;have m2:=(CV (a:=⟨bo,0,none⟩) (G bo lo' HOO.out)).trans of;have m4:=(Bq (a:=⟨bf,0,none⟩) (G bf lf ne3)).trans f0;have m5:=(Bq (a:=⟨bb,0,none⟩) (G bb lb ne4)).trans b0;have m3:bo<w8.heap.size:=An lo' (Bb zI hgrow8.size);have HG8:=hid hgrow8;have HO8:=hid hown8;have HA8:=hid hat8;have HGG:=hid G;clear hgrow8 hown8 hat8 G)
  refine hK.out _ _ ?_ (fun hHeld=> ?_)
  ·((try dsimp only);refine⟨?_,?_,?_⟩<;>(first | assumption | (go_keep;done)))
  clear hK K
  (try simp only[Act.put,Aa,Ab,Ac])
  refine Aq (i:=10) (oi:=_) (v:=?_) rfl zF zF zF (fun _ _ _ h=>h) (Or.inl ⟨zR,?_⟩) zK ?_
  rotate_left
  ·(intro w hSw;(try dsimp only at hSw);go_simp<;>with_reducible rfl)
  (try simp only[Act.put,Aa,Ab,Ac])
  refine FP zJ ?_ _
  show wpList _ _ _ _ _ _
  have hA:=CG rfl HO5.out
  have keepA:∀q,q<w5.heap.size→(w5.alloc (.cells #[.slice a5 D.length c5,.int .i64 0,.int .i64 0] 304)).heap[q]? =w5.heap[q]? :=fun q hq=>AN w5 _ q hq
  have OF2:=(HOWN.out.keep (w':=w5.alloc (.cells #[.slice a5 D.length c5,.int .i64 0,.int .i64 0] 304)) (fun q hq=>(keepA q (by have:=HF.out q hq;omega)).trans (HK5.out.block q (HF.out q hq))) (fun q hq=>by
   have h1:=(HOWN.out.1.lt q hq).2
   exact (keepA q zC).trans (HK5.out.block q h1))).mono (F':=fun q=>F q∨(w.heap.size≤q∧q<w5.heap.size)) (fun q h=> .inl h)
  have hx:Lp.r (fun q=>(F q∨(w.heap.size≤q∧q<w5.heap.size))∧(Value.slice av L.length cv).ownBlock≠some q) (w5.alloc (.cells #[.slice a5 D.length c5,.int .i64 0,.int .i64 0] 304)) [.slice a5 D.length c5,.int .i64 0,.int .i64 0] ⟨D,0,0⟩:=
   Wm (x:=⟨D,0,0⟩) (Am.mono (Am.keep hA fun q hq=>keepA q hq.2) fun q hq=>⟨.inr hq,fun e=>by have:=(HOWN.out.1.lt q e).2;omega⟩) zM zM
  have OPU:=AY.push OF2 (fun q hq=>hq.elim (fun h=>by have:=HF.out q h;simp;omega) fun h=>zI) rfl hx HO8.out HG8.out HA8.out
  have hs8:=HG8.out.size
  have hoo':(Value.slice a8 (L.length+1) c8).ownBlock≠some bo:=fun e=>by
   rcases HA8.out with h | h
   ·rw[h] at e;exact HOO.out e
   ·rw[h] at e;simp at e;omega
  have hsz:(w8.setCell ⟨bo,0,none⟩ (.slice a8 (L.length+1) c8)).heap.size=w8.heap.size:=zU
  have OP9:=(OPU.keep (w':=w8.setCell ⟨bo,0,none⟩ (.slice a8 (L.length+1) c8)) (fun q hq=>At _ _ _ _ (fun e=>by
   subst e
   rcases hq with h | h
   ·exact HFO.out h
   ·omega)) (fun q hq=>At _ _ _ _ (fun e=>hoo' (by rw[hq];exact A3 some e)))).mono (F':=fun q=>F q∨(w.heap.size≤q∧q<(w8.setCell ⟨bo,0,none⟩ (.slice a8 (L.length+1) c8)).heap.size)) (fun q hq=>by
    rw[hsz]
    rcases hq with h | h
    ·exact .inl h
    ·simp at hs8;exact .inr ⟨h.1,zC⟩)
  have hB8:Blk w8 bo 337 #[.slice av L.length cv]:=(HGG.out bo lo' HOO.out).trans HHO.out
  have htch:Tch (fun q=>q=bo∨(Value.slice av L.length cv).ownBlock=some q) w (w8.setCell ⟨bo,0,none⟩ (.slice a8 (L.length+1) c8)):=
   Tch.setCell ⟨HG8.out.os.trans HK5.out.os,HG8.out.tape.trans HK5.out.tape,HG8.out.output.trans HK5.out.output,by simp at hs8;omega,fun q hq hf=>HGG.out q hq (fun e=>hf (.inr e))⟩ (fun _=> .inl rfl) _
  have hst:QI w bo lo F (.slice av L.length cv) (L++GA b i to) (.returned (.tuple #[])) (w8.setCell ⟨bo,0,none⟩ (.slice a8 (L.length+1) c8)):=by
   rw[HLIT.out]
   have hll:(L++[(⟨D,0,0⟩:Tok)]).length=L.length+1:=zM
   refine⟨rfl,a8,c8,cells++[[.slice a5 D.length c5,.int .i64 0,.int .i64 0]],?_,?_,htch,?_⟩
   ·rw[hll];exact hB8.set 0 _
   ·rw[hll];exact OP9
   ·rw[hll]
    rcases HA8.out with h | h
    ·exact .inl h
    ·exact .inr ⟨_,h,zI⟩
  have HST:=hid hst
  clear hst htch OP9 OPU OF2 hx keepA hA hoo' hsz hB8
  go_wp2_with fail
  refine Ax (A4 rfl _ _ _) rfl ?_
  exact HST.out
 ·have hlit:GA b i to=[]:=by unfold GA;rw[Ai hit]
  have d1:decide ((i:Int)<(to:Int))=false:=zI
  have d1':decide (i<to)=false:=zI
  have hst:QI w bo lo F (.slice av L.length cv) (L++GA b i to) (.returned (.tuple #[])) w:=by
   rw[hlit,Bu]
   exact⟨rfl,av,cv,cells,ho,hown.mono fun q h=> .inl h,Tch.refl _ _,.inl rfl⟩
  have HST:=hid hst
  clear hst hlit hown ho hb hl hf hit
  go_enter Tryz.func372,Tryz.ntmps372
  go_wp2
  refine Ax (A4 rfl _ _ _) rfl ?_
  exact HST.out
structure Rs where
 p:Nat
 k:Int
 f:Int
def Rs.fail(s:Rs)(c at_:Int):Rs:=if s.k=0 then ⟨s.p,c,at_⟩ else s
def Rs.skip(L:Nat)(s:Rs)(n:Int):Bool × Rs:=
 if s.k=0 then (if n<0 then (false,⟨s.p,17,s.p⟩) else if (L:Int)-s.p<n then (false,⟨s.p,1,L⟩) else (true,⟨s.p+n.toNat,0,0⟩)) else (false,s)
def Rs.take(B:List UInt8)(s:Rs)(n:Int):Rs × List UInt8:=((s.skip B.length n).2,if (s.skip B.length n).1 then (B.drop s.p).take n.toNat else [])
def Rs.byte(B:List UInt8)(s:Rs):Rs × UInt8:=((s.skip B.length 1).2,if (s.skip B.length 1).1 then B.getD s.p 0 else 0)
structure Rs.ok(s:Rs)(L:Nat):Prop where
 le:s.p≤L
 zero:s.k=0→s.f=0
theorem Rs.Ck{s:Rs}(h:s.ok L){c at_:Int}(hc:c≠0):(s.fail c at_).ok L:=by
 unfold Rs.fail;split
 ·exact⟨h.le,fun e=>absurd e hc⟩
 ·exact h
theorem Rs.Ug{s:Rs}(h:s.ok L)(n:Int):(s.skip L n).2.ok L:=by
 have:=h.le
 unfold Rs.skip;split
 ·split
  ·exact⟨h.le,fun e=>by simp at e⟩
  ·split
   ·exact⟨h.le,fun e=>by simp at e⟩
   ·exact⟨zH,fun _=>rfl⟩
 ·exact h
theorem Rs.Wv{s:Rs}(h:s.ok L)(n:Int):s.p≤(s.skip L n).2.p:=by
 unfold Rs.skip;split
 ·split
  ·exact As _
  ·split
   ·exact As _
   ·dsimp only;omega
 ·exact As _
theorem Rs.Gf{s:Rs}(h:s.ok B.length)(n:Int):(s.take B n).1.ok B.length:=s.Ug h n
theorem Rs.Hp{s:Rs}(h:s.ok B.length):(s.byte B).1.ok B.length:=s.Ug h 1
structure AS(w:World)(g:Nat)(B:List UInt8)(a:Option Addr)(s:Rs):Prop where
 blk:Blk w g 222 #[.slice a B.length B.length,.int .i64 (s.p:Int),.int .i64 s.k,.int .i64 s.f]
 dat:Am.r (fun q=>q<w.heap.size∧q≠g) w [.slice a B.length B.length] B
 ok:s.ok B.length
def AE(w:World)(g:Nat)(B:List UInt8)(a:Option Addr)(s':Rs)(w':World):Prop:=AS w' g B a s'∧Tch (·=g) w w'
section
variable {w w1 w2:World} {g:Nat} {B:List UInt8} {a:Option Addr} {s s':Rs}
theorem AS.later(h:AS w g B a s)(hb:Below w.heap.size w w1):AS w1 g B a s:=
 ⟨h.blk.later hb,Am.mono (Am.keep h.dat fun q hq=>hb.block q hq.1) fun q hq=>⟨An hq.1 hb.size,hq.2⟩,h.ok⟩
theorem AS.len(h:AS w g B a s):B.length≤9223372036854775807:=(AL h.dat).2.1
theorem AE.later(h:AS w g B a s)(hb:Below w.heap.size w w1):AE w g B a s w1:=⟨h.later hb,Tch.AW hb⟩
theorem AE.refl(h:AS w g B a s):AE w g B a s w:=⟨h,Tch.refl _ _⟩
theorem AE.trans(h:Tch (·=g) w w1)(k:AE w1 g B a s' w2):AE w g B a s' w2:=⟨k.1,h.trans k.2 fun _ _ h=>h⟩
theorem AE.then(h:AE w g B a s w1)(hb:Below w1.heap.size w1 w2):AE w g B a s w2:=⟨h.1.later hb,h.2.trans (Tch.AW (F:=(·=g)) hb) fun _ _ h=>h⟩
theorem AE.size(h:AE w g B a s w1):w.heap.size≤w1.heap.size:=h.2.size
theorem AE.below{b:Nat}(h:AE w g B a s w1)(hb:b≤w.heap.size)(hg:b≤g):Below b w w1:=h.2.Ch hb fun q _ e=>e ▸ hg
end
theorem BR{m:Nat}(hl:l=[])(hm:m=0)(hc:c≤9223372036854775807):Am.r S w [.slice a m c] l:=by
 subst hl hm
 exact Bv (xs:=[]) rfl (Ar _) hc (.inl rfl)
theorem LP(h:Am.r S w [.slice a B.length c] B){lo:Nat}(h1:lo≤hi)(h2:hi≤B.length):
  ∃A' c',(∀w':World,(Instr.slice 22 (.slice a B.length c) (some (.int .i64 (lo:Int))) (some (.int .i64 (hi:Int))) none).run Tryz.prog w'=.ok (.slice A' (hi-lo) c') w')∧Am.r S w [.slice A' (hi-lo) c'] ((B.drop lo).take (hi-lo)):=by
 obtain⟨_,hm,hc,hcm⟩:=AL h
 have g1:(0:Int)≤(lo:Int):=zC
 have g2:(lo:Int)≤(hi:Int):=zC
 have g3:(hi:Int)≤(c:Int):=zC
 rcases Bl lo hi with hlt | hge
 ·obtain⟨ga,oa,hA,hga,_⟩:=Dg h (i:=lo) zC
  subst hA
  have hd:=PN h (k:=lo) zC
  rw[E3] at hd
  have hsub:=MA hd (k:=hi-lo) zI
  refine⟨some ⟨ga,oa+lo,none⟩,c-lo,fun w'=> ?_,hsub⟩
  have g4:¬c=lo:=zC
  clear h hd hsub
  go_simp
 ·obtain rfl:lo=hi:=by omega
  by_cases g4:c=lo
  ·refine⟨a,c-lo,fun w'=> ?_,BR zM zC zC⟩
   clear h
   subst g4
   go_simp
  ·refine⟨a.map (·.add (lo*1)),c-lo,fun w'=> ?_,BR zM zC zC⟩
   clear h
   go_simp
theorem Aar(h:Am.r S w [.slice a B.length c] B){lo:Nat}(h1:lo≤B.length):
  ∃A' c',(∀w':World,(Instr.slice 22 (.slice a B.length c) (some (.int .i64 (lo:Int))) none none).run Tryz.prog w'=.ok (.slice A' (B.length-lo) c') w')∧Am.r S w [.slice A' (B.length-lo) c'] (B.drop lo):=by
 obtain⟨_,hm,hc,hcm⟩:=AL h
 have g1:(0:Int)≤(lo:Int):=zC
 have g2:(lo:Int)≤(B.length:Int):=zC
 rcases Bl lo B.length with hlt | hge
 ·obtain⟨ga,oa,hA,hga,_⟩:=Dg h (i:=lo) zC
  subst hA
  have hd:=PN h (k:=lo) zC
  rw[E3] at hd
  refine⟨some ⟨ga,oa+lo,none⟩,c-lo,fun w'=> ?_,hd⟩
  have g4:¬c=lo:=zC
  clear h hd
  go_simp
 ·obtain rfl:lo=B.length:=by omega
  by_cases g4:c=B.length
  ·refine⟨a,c-B.length,fun w'=> ?_,BR zM zC zC⟩
   clear h
   subst g4
   go_simp
  ·refine⟨a.map (·.add (B.length*1)),c-B.length,fun w'=> ?_,BR zM zC zC⟩
   clear h
   go_simp
theorem BK(w:World)(k f:Int):Calls Tryz.prog 65 #[.agg #[.int .i64 k,.int .i64 f]] w fun r w'=>r=.returned (.bool (decide (k=0)))∧Below w.heap.size w w':=by
 go_enter Tryz.func65,Tryz.ntmps65
 go_wp2
 go_ret
 exact⟨zAg,zB⟩
theorem Gp(w:World)(k f:Int)(hk:k≠0):Calls Tryz.prog 154 #[.int .i64 k,.int .i64 f] w fun r w'=>r=.returned (.agg #[.int .i64 k,.int .i64 f])∧Below w.heap.size w w':=by
 have d1:(k==(0:Int))=false:=by simp[hk]
 go_enter Tryz.func154,Tryz.ntmps154
 go_wp2
 refine Ax (v:=.agg #[.int .i64 k,.int .i64 f]) (by simp[results,Tryz.results154,go_sem]) rfl ⟨rfl,zB⟩
theorem Lo(w:World)(B:List UInt8)(a:Option Addr)(n c:Nat)(hl:Am.r (·<w.heap.size) w [.slice a n c] B):
  Calls Tryz.prog 109 #[.slice a n c] w fun r w'=>r=.returned (.pointer (some ⟨w.heap.size,0,none⟩))∧AS w' w.heap.size B a ⟨0,0,0⟩∧Below w.heap.size w w':=by
 obtain⟨rfl,hm,hc,hcm⟩:=AL hl
 have hD:Am.r (fun q=>q<w.heap.size) w [.slice a B.length B.length] B:=by
  obtain⟨a',c',e,h1,h2,h3⟩:=hl
  simp at e
  obtain⟨rfl,rfl⟩:=e
  exact Bv rfl (As _) (by simp[maxLen];omega) h3
 have HD:=hid hD
 have g1:(B.length:Int)≤(c:Int):=zC
 clear hl hD
 go_enter Tryz.func109,Tryz.ntmps109
 go_wp2
 go_ret
 refine⟨rfl,⟨zD,?_,⟨Ar _,fun _=>rfl⟩⟩,zB⟩
 exact Am.mono (Am.keep HD.out fun q hq=>AN _ _ q hq) fun q hq=>⟨zI,zC⟩
theorem AK(w:World){g:Nat}{B:List UInt8}{a:Option Addr}{s:Rs}(h:AS w g B a s):Calls Tryz.prog 112 #[.pointer (some ⟨g,0,none⟩)] w fun r w'=>r=.returned (.bool (decide (s.k=0)))∧Below w.heap.size w w':=by
 have c2:w.cell? ⟨g,2,none⟩=some (.int .i64 s.k):=h.blk.cell 2
 have c3:w.cell? ⟨g,3,none⟩=some (.int .i64 s.f):=h.blk.cell 3
 clear h
 go_enter Tryz.func112,Tryz.ntmps112
 go_wp2_with fail
 refine (BK w s.k s.f).mono ?_
 rintro r w1 ⟨rfl,hb⟩
 go_wp2
 go_ret
 exact⟨rfl,hb⟩
theorem Bx(w:World){g:Nat}{B:List UInt8}{a:Option Addr}{s:Rs}(h:AS w g B a s)(k f:Int)(hk:k≠0):Calls Tryz.prog 124 #[.pointer (some ⟨g,0,none⟩),.int .i64 k,.int .i64 f] w fun r w'=>r=.returned (.tuple #[])∧AE w g B a (s.fail k f) w':=by
 have HG:=hid (AK w h)
 have HH:=hid h
 by_cases h0:s.k=0
 ·have e:s.fail k f=⟨s.p,k,f⟩:=by unfold Rs.fail;rw[Ag h0]
  have hr:decide (s.k=0)=true:=Ad h0
  rw[hr] at HG
  rw[e]
  clear h h0 hr e
  go_enter Tryz.func124,Tryz.ntmps124
  go_wp2_with fail
  refine HG.out.mono ?_
  rintro r w1 ⟨rfl,hb⟩
  go_wp2_with fail
  refine (Gp w1 k f hk).mono ?_
  rintro r w2 ⟨rfl,hb2⟩
  have hb12:=Aj hb2 hb
  have h2:=HH.out.later hb12
  have f2:=h2.blk.free 2
  have f3:=h2.blk.free 3
  have c2:=h2.blk.cell 2
  have c3:=h2.blk.cell 3
  have lt:=h2.blk.lt
  simp at c2 c3
  have H2:=hid h2
  have hst:AE w2 g B a ⟨s.p,k,f⟩ ((w2.setCell ⟨g,2,none⟩ (.int .i64 k)).setCell ⟨g,3,none⟩ (.int .i64 f)):=by
   refine⟨⟨(h2.blk.set 2 _).set 3 _,?_,h2.ok.le,fun e=>absurd e hk⟩,Tch.setCell (F:=(·=g)) (Tch.setCell (F:=(·=g)) (Tch.refl _ _) (fun _=>rfl) _) (fun _=>rfl) _⟩
   refine Am.mono (Am.keep h2.dat fun q hq=> ?_) fun q hq=>⟨by simp[World.setCell];exact hq.1,hq.2⟩
   rw[At _ _ _ _ (fun e=>hq.2 e),At _ _ _ _ (fun e=>hq.2 e)]
  have HST:=hid (AE.trans (Tch.AW (F:=(·=g)) hb12) hst)
  clear h2 hst
  go_wp2
  go_end0
  exact⟨rfl,HST.out⟩
 ·have e:s.fail k f=s:=by unfold Rs.fail;rw[Ai h0]
  have hr:decide (s.k=0)=false:=Ae h0
  rw[hr] at HG
  rw[e]
  clear h h0 hr e
  go_enter Tryz.func124,Tryz.ntmps124
  go_wp2_with fail
  refine HG.out.mono ?_
  rintro r w1 ⟨rfl,hb⟩
  go_wp2
  go_end0
  exact⟨rfl,AE.later HH.out hb⟩
theorem H7(w:World){s:Rs}(h:AS w g B a s):Calls Tryz.prog 114 #[.pointer (some ⟨g,0,none⟩)] w fun r w'=>r=.returned (.agg #[.int .i64 s.k,.int .i64 s.f])∧Below w.heap.size w w':=by
 have c2:w.cell? ⟨g,2,none⟩=some (.int .i64 s.k):=h.blk.cell 2
 have c3:w.cell? ⟨g,3,none⟩=some (.int .i64 s.f):=h.blk.cell 3
 have lt:=h.blk.lt
 clear h
 go_enter Tryz.func114,Tryz.ntmps114
 go_wp2
 refine Ax (v:=.agg #[.int .i64 s.k,.int .i64 s.f]) (by simp[results,Tryz.results114,go_sem]) rfl ⟨rfl,zB⟩
theorem Cd(w:World){s:Rs}(h:AS w g B a s):Calls Tryz.prog 173 #[.pointer (some ⟨g,0,none⟩)] w fun r w'=>r=.returned (.int .i64 (s.p:Int))∧w=w':=by
 have c1:w.cell? ⟨g,1,none⟩=some (.int .i64 (s.p:Int)):=h.blk.cell 1
 clear h
 go_enter Tryz.func173,Tryz.ntmps173
 go_wp2
 go_ret
 exact⟨rfl,rfl⟩
theorem MC(w:World){B:List UInt8}{s:Rs}(h:AS w g B a s):Calls Tryz.prog 267 #[.pointer (some ⟨g,0,none⟩)] w fun r w'=>r=.returned (.int .i64 ((B.length:Int)-(s.p:Int)))∧Below w.heap.size w w':=by
 have C0:=fun s:AM w=>s.cell (h.blk.cell 0)
 have C1:=fun s:AM w=>s.cell (h.blk.cell 1)
 simp at C0 C1
 have hle:=h.ok.le
 have hle2:=h.len
 clear h
 go_enter Tryz.func267,Tryz.ntmps267
 go_wp2_with fail
 refine Az zJ zJ ?_
 repeat (go_big_quiet_step (fail))
 refine AT ?_
 rintro W5 ⟨⟨W5',hb5⟩,rfl⟩
 go_wp2
 go_ret
 exact⟨zAg,hb5⟩
theorem Uh(w:World){g:Nat}{B:List UInt8}{a:Option Addr}{s:Rs}(h:AS w g B a s)(n:Int)(hn:n≤9223372036854775807):Calls Tryz.prog 262 #[.pointer (some ⟨g,0,none⟩),.int .i64 n] w fun r w'=>r=.returned (.bool (s.skip B.length n).1)∧AE w g B a (s.skip B.length n).2 w':=by
 have HG:=hid (AK w h)
 have HH:=hid h
 have hle:=h.ok.le
 have hle2:=h.len
 by_cases h0:s.k=0
 ·have hr:decide (s.k=0)=true:=Ad h0
  rw[hr] at HG
  by_cases h1:n<0
  ·have e:s.skip B.length n=(false,⟨s.p,17,s.p⟩):=by unfold Rs.skip;rw[Ag h0,Ag h1]
   have ef:s.fail 17 s.p=⟨s.p,17,s.p⟩:=by unfold Rs.fail;rw[Ag h0]
   have d1:decide (n<(0:Int))=true:=Ad h1
   rw[e]
   dsimp only
   rw[←ef]
   clear h h0 hr e ef
   go_enter Tryz.func262,Tryz.ntmps262
   go_wp2_with fail
   refine HG.out.mono ?_
   rintro r w1 ⟨rfl,hb⟩
   have hh1:=HH.out.later hb
   have c1:=hh1.blk.cell 1
   simp at c1
   have HF:=hid (Bx w1 hh1 17 s.p zC)
   clear hh1
   go_wp2_with fail
   refine HF.out.mono ?_
   rintro r w2 ⟨rfl,hst⟩
   have HST:=hid (AE.trans (Tch.AW (F:=(·=g)) hb) hst)
   clear hst
   go_wp2
   go_ret
   exact⟨rfl,HST.out⟩
  ·have d1:decide (n<(0:Int))=false:=Ae h1
   by_cases h2:(B.length:Int)-s.p<n
   ·have e:s.skip B.length n=(false,⟨s.p,1,B.length⟩):=by unfold Rs.skip;rw[Ag h0,Ai h1,Ag h2]
    have ef:s.fail 1 B.length=⟨s.p,1,B.length⟩:=by unfold Rs.fail;rw[Ag h0]
    have d2:decide ((B.length:Int)-(s.p:Int)<n)=true:=Ad h2
    rw[e]
    dsimp only
    rw[←ef]
    clear h h0 hr e ef
    go_enter Tryz.func262,Tryz.ntmps262
    go_wp2_with fail
    refine HG.out.mono ?_
    rintro r w1 ⟨rfl,hb⟩
    have hh1:=HH.out.later hb
    have HL:=hid (MC w1 hh1)
    go_wp2_with fail
    refine HL.out.mono ?_
    rintro r w2 ⟨rfl,hb2⟩
    have hb12:=Aj hb2 hb
    have hh2:=HH.out.later hb12
    have c0:=hh2.blk.cell 0
    simp at c0
    have HF:=hid (Bx w2 hh2 1 B.length zC)
    clear hh1 hh2
    go_wp2_with fail
    refine HF.out.mono ?_
    rintro r w3 ⟨rfl,hst⟩
    have HST:=hid (AE.trans (Tch.AW (F:=(·=g)) hb12) hst)
    clear hst
    go_wp2
    go_ret
    exact⟨rfl,HST.out⟩
   ·have e:s.skip B.length n=(true,⟨s.p+n.toNat,0,0⟩):=by unfold Rs.skip;rw[Ag h0,Ai h1,Ai h2]
    have d2:decide ((B.length:Int)-(s.p:Int)<n)=false:=Ae h2
    have hz:=h.ok.zero h0
    rw[e]
    obtain⟨m,rfl⟩:∃m:Nat,n=m:=⟨n.toNat,zC⟩
    have e1:((m:Int)).toNat=m:=zC
    rw[e1]
    have hle3:s.p+m≤B.length:=zC
    have HZ:=hid hz;have H0:=hid h0
    clear h h0 hr e e1 hz
    go_enter Tryz.func262,Tryz.ntmps262
    go_wp2_with fail
    refine HG.out.mono ?_
    rintro r w1 ⟨rfl,hb⟩
    have hh1:=HH.out.later hb
    have HL:=hid (MC w1 hh1)
    go_wp2_with fail
    refine HL.out.mono ?_
    rintro r w2 ⟨rfl,hb2⟩
    have hb12:=Aj hb2 hb
    have hh2:=HH.out.later hb12
    have c1:=hh2.blk.cell 1
    have f1:=hh2.blk.free 1
    have lt:=hh2.blk.lt
    simp at c1
    have hst:AE w2 g B a ⟨s.p+m,0,0⟩ (w2.setCell ⟨g,1,none⟩ (.int .i64 ((s.p:Int)+(m:Int)))):=by
     refine⟨⟨?_,?_,hle3,fun _=>rfl⟩,Tch.setCell (F:=(·=g)) (Tch.refl _ _) (fun _=>rfl) _⟩
     ·have:=hh2.blk.set 1 (.int .i64 ((s.p:Int)+(m:Int)))
      rw[H0.out,HZ.out] at this
      simpa using this
     ·refine Am.mono (Am.keep hh2.dat fun q hq=> ?_) fun q hq=>⟨by simp[World.setCell];exact hq.1,hq.2⟩
      rw[At _ _ _ _ (fun e=>hq.2 e)]
    have HST:=hid (AE.trans (Tch.AW (F:=(·=g)) hb12) hst)
    clear hh1 hh2 hst
    go_wp2
    go_ret
    exact⟨rfl,HST.out⟩
 ·have e:s.skip B.length n=(false,s):=by unfold Rs.skip;rw[Ai h0]
  have hr:decide (s.k=0)=false:=Ae h0
  rw[hr] at HG
  rw[e]
  clear h h0 hr e
  go_enter Tryz.func262,Tryz.ntmps262
  go_wp2_with fail
  refine HG.out.mono ?_
  rintro r w1 ⟨rfl,hb⟩
  go_wp2
  go_ret
  exact⟨rfl,AE.later HH.out hb⟩
theorem Rs.Fv{s:Rs}{n:Int}(h:(s.skip L n).1=true):s.k=0∧0≤n∧n≤(L:Int)-s.p∧(s.skip L n).2=⟨s.p+n.toNat,0,0⟩:=by
 unfold Rs.skip at*
 split at h
 ·rename_i h0
  split at h
  ·simp at h
  ·split at h
   ·simp at h
   ·rename_i h1 h2
    exact⟨h0,zC,zC,by rw[Ag h0,Ai h1,Ai h2]⟩
 ·simp at h
theorem Rs.Io{s:Rs}{n:Int}(h:(s.skip L n).1=false):(s.skip L n).2.k≠0∧(s.skip L n).2.p=s.p:=by
 unfold Rs.skip at*
 split at h
 ·rename_i h0
  split at h
  ·rename_i h1
   rw[Ag h0,Ag h1];simp
  ·rename_i h1
   split at h
   ·rename_i h2
    rw[Ag h0,Ai h1,Ag h2];simp
   ·simp at h
 ·rename_i h0
  rw[Ai h0];exact⟨h0,rfl⟩
theorem KG(w:World){g:Nat}{B:List UInt8}{a:Option Addr}{s:Rs}(h:AS w g B a s):Calls Tryz.prog 195 #[.pointer (some ⟨g,0,none⟩)] w fun r w'=>r=.returned (.int .u8 ((s.byte B).2.toNat:Int))∧AE w g B a (s.byte B).1 w':=by
 have HS:=hid (Uh w h 1 zC)
 have hle2:=h.len
 unfold Rs.byte
 cases hk:(s.skip B.length 1).1
 ·rw[hk] at HS
  generalize (s.skip B.length 1).2=s1 at*
  clear h hk
  go_enter Tryz.func195,Tryz.ntmps195
  go_wp2_with fail
  refine HS.out.mono ?_
  rintro r w1 ⟨rfl,hst⟩
  have HST:=hid hst
  clear hst
  go_wp2
  go_ret
  exact⟨rfl,HST.out⟩
 ·obtain⟨h0,_,h2,h3⟩:=Rs.Fv hk
  rw[hk,h3] at HS
  rw[h3]
  have hp:s.p<B.length:=zC
  have hbd:B.getD s.p 0=B[s.p]:=by simp[hp]
  simp only[IL]
  rw[hbd]
  generalize hx:B[s.p]=x
  have HX:=hid hx
  rw[show s.p+(1:Int).toNat=s.p+1 by omega] at*
  clear h hk h0 h2 h3 hbd hx
  go_enter Tryz.func195,Tryz.ntmps195
  go_wp2_with fail
  refine HS.out.mono ?_
  rintro r w1 ⟨rfl,hst⟩
  obtain⟨ga,oa,hA,hga,hc⟩:=Dg hst.1.dat hp
  rw[HX.out] at hc
  subst hA
  have c1:=hst.1.blk.cell 1
  simp at c1
  have C0:=fun s:AM w1=>s.cell (hst.1.blk.cell 0)
  have C1:=fun s:AM w1=>s.cell c1
  have CB:=fun s:AM w1=>s.cell hc
  simp at C0
  have HST:=hid hst
  clear hst hc c1
  have i1:(s.p:Int)<(B.length:Int):=zC
  have i2:(0:Int)≤(s.p:Int):=zC
  have hb1:(s.p:Int)≤9223372036854775807:=zC
  go_wp2_with fail
  have i3:wrap64 (s.p:Int)=s.p:=ZV
  refine Az zJ zJ ?_
  repeat (go_big_quiet_step (fail))
  refine AT ?_
  clear i3
  rintro W5 ⟨⟨W5',hb5⟩,rfl⟩
  go_wp2
  go_ret
  exact⟨rfl,HST.out.then hb5⟩
theorem KF(w:World){g:Nat}{B:List UInt8}{a:Option Addr}{s:Rs}(h:AS w g B a s)(n:Int)(hn:n≤9223372036854775807)(hB:B.length≤1000000000000):Calls Tryz.prog 200 #[.pointer (some ⟨g,0,none⟩),.int .i64 n] w fun r w'=>∃v,r=.returned v∧Am.r (fun q=>w.heap.size≤q∧q<w'.heap.size) w' [v] (s.take B n).2∧AE w g B a (s.take B n).1 w':=by
 have HS:=hid (Uh w h n hn)
 unfold Rs.take
 cases hk:(s.skip B.length n).1
 ·rw[hk] at HS
  generalize (s.skip B.length n).2=s1 at*
  clear h hk
  go_enter Tryz.func200,Tryz.ntmps200
  go_wp2_with fail
  refine HS.out.mono ?_
  rintro r w1 ⟨rfl,hst⟩
  have HST:=hid hst
  clear hst
  go_wp2
  go_ret
  exact⟨_,rfl,BR rfl rfl zC,HST.out⟩
 ·obtain⟨h0,h1,h2,h3⟩:=Rs.Fv hk
  rw[hk,h3] at HS
  rw[h3]
  obtain⟨m,rfl⟩:∃m:Nat,n=m:=⟨n.toNat,zC⟩
  rw[show ((m:Int)).toNat=m by omega] at*
  obtain⟨i0,hi,hz0,hz1,hz2⟩:=A5 FL
  have hp:s.p+m≤B.length:=by have:=h.ok.le;omega
  simp only[IL]
  clear h hk h0 h1 h2 h3
  go_enter Tryz.func200,Tryz.ntmps200
  go_wp2_with fail
  refine HS.out.mono ?_
  rintro r w1 ⟨rfl,hst⟩
  obtain⟨aD,cD,hsl,hsub⟩:=LP hst.1.dat (lo:=s.p) (hi:=s.p+m) zC hp
  have hlD:((B.drop s.p).take (s.p+m-s.p)).length=m:=zI
  rw[show s.p+m-s.p=m by omega] at hsl hsub hlD
  generalize hDe:(B.drop s.p).take m=D at*
  have HDE:=hid hDe
  clear hDe
  have hDm:m=D.length:=hlD.symm
  obtain⟨P1,hP1⟩:∃P1:Nat,P1=s.p+m:=⟨_,rfl⟩
  rw[←hP1,show (s.p:Int)=(P1:Int)-(m:Int) by omega] at hsl
  have HSB:=hid (fun (W:World) (hW:Below w1.heap.size w1 W)=>Cm (l:=D) (lift (w:=w1) (A:=Am) (cs:=[.slice aD D.length cD]) zBq hW))
  have HONE:=hid (Bi D)
  have c1:=hst.1.blk.cell 1
  have c0:=hst.1.blk.cell 0
  simp at c0
  rw[←hP1] at c1 hst hp
  simp at c1
  have lt:=hst.1.blk.lt
  have HST:=hid hst
  have HDM:=hid hDm
  have hs1:=hst.size
  have HP1:=hid hP1
  have hPm:m≤P1:=zC
  clear hst hsub hlD hDm hP1
  have hb1:(P1:Int)≤9223372036854775807:=zC
  go_wp2_with fail
  have j1:IntKind.i64.wrap ((P1:Int)-(m:Int))=(P1:Int)-(m:Int):=IntWalk.i64_in _ zC
  go_region_held3 (fun w'=>w'.cell? ⟨g,0,none⟩=some (.slice a B.length B.length)∧w'.cell? ⟨g,1,none⟩=some (.int .i64 (P1:Int))) (((try dsimp only);refine⟨?_,?_⟩<;>(first | assumption | (go_keep;done))))
   ((go_loud (refine CL zR _ _ _ zR w1.heap.size 5 i0 (.int .u8 0) 1 1 AJ hi hz0 hz1 hz2 rfl zL _ 0 [] zR (EO _ zM zR) aD m cD (byteCells D) zR zW HONE.out (by clear j1;simp only[maxLen];omega) (by clear j1;omega) zM ?_;intro a5 c5 w5 hown5 hgrow5 hat5;rw[A7] at hown5;have k5:Below w1.heap.size w1 w5:=Below.grown zB hgrow5 zM (fun g e=>by {have e':some w1.heap.size=some g:=e;injection e' with e';clear j1;omega});have e0:=(k5.cell (p:=⟨g,0,none⟩) lt).trans c0;have e1:=(k5.cell (p:=⟨g,1,none⟩) lt).trans c1;have HK5:=hid k5;have HO5:=hid hown5;clear hown5 hgrow5 hat5 k5)))
  all_goals
   clear j1
   have ho:=HO5.out
   rw[AG] at ho
   have hA:=CG HDM.out ho
   have HA:=hid hA
   clear ho hA
   go_wp2
   go_ret
   refine⟨_,rfl,?_,?_⟩
   ·rw[HDE.out]
    exact Am.mono HA.out fun q hq=>⟨zC,hq.2⟩
   ·rw[←HP1.out]
    exact HST.out.then HK5.out
theorem Wy(w:World){B:List UInt8}{s:Rs}(h:AS w g B a s)(at_:Nat)(hat:at_≤s.p)(hB:B.length≤1000000000000):Calls Tryz.prog 214 #[.pointer (some ⟨g,0,none⟩),.int .i64 (at_:Int)] w fun r w'=>∃v,r=.returned v∧Am.r (fun q=>w.heap.size≤q∧q<w'.heap.size) w' [v] ((B.drop at_).take (s.p-at_))∧Below w.heap.size w w':=by
 obtain⟨i0,hi,hz0,hz1,hz2⟩:=A5 FL
 have hp:s.p≤B.length:=h.ok.le
 obtain⟨aD,cD,hsl,hsub⟩:=LP h.dat (lo:=at_) (hi:=s.p) hat hp
 have hlD:((B.drop at_).take (s.p-at_)).length=s.p-at_:=zI
 obtain⟨m,hm⟩:∃m:Nat,m=s.p-at_:=⟨_,rfl⟩
 rw[←hm] at hsl hsub hlD ⊢
 generalize (B.drop at_).take m=D at*
 have hDm:m=D.length:=hlD.symm
 have HSB:=hid (fun (W:World) (hW:Below w.heap.size w W)=>Cm (l:=D) (lift (w:=w) (A:=Am) (cs:=[.slice aD D.length cD]) zBq hW))
 have HONE:=hid (Bi D)
 have c1:=h.blk.cell 1
 have c0:=h.blk.cell 0
 simp at c0 c1
 have lt:=h.blk.lt
 have HDM:=hid hDm
 generalize s.p=P1 at*
 have d1:decide ((at_:Int)<0)=false:=Ae zC
 have d2:decide ((P1:Int)<(at_:Int))=false:=Ae zC
 have d3:decide (P1<at_)=false:=Ae zC
 have hmB:m≤B.length:=zC
 clear h hsub hlD hDm hm
 go_enter Tryz.func214,Tryz.ntmps214
 go_wp2_with fail
 go_region_held3 (fun w'=>w'.cell? ⟨g,0,none⟩=some (.slice a B.length B.length)∧w'.cell? ⟨g,1,none⟩=some (.int .i64 (P1:Int))) (((try dsimp only);refine⟨?_,?_⟩<;>(first | assumption | (go_keep;done))))
  ((go_loud (refine CL zR _ _ _ zR w.heap.size 5 i0 (.int .u8 0) 1 1 AJ hi hz0 hz1 hz2 rfl zL _ 0 [] zR (EO _ zM zR) aD m cD (byteCells D) zR zW HONE.out zO zC zM ?_;intro a5 c5 w5 hown5 hgrow5 hat5;rw[A7] at hown5;have k5:Below w.heap.size w w5:=Below.grown zB hgrow5 zM (fun g e=>ZP);have e0:=(k5.cell (p:=⟨g,0,none⟩) lt).trans c0;have e1:=(k5.cell (p:=⟨g,1,none⟩) lt).trans c1;have HK5:=hid k5;have HO5:=hid hown5;clear hown5 hgrow5 hat5 k5)))
 all_goals
  have ho:=HO5.out
  rw[AG] at ho
  have hA:=CG HDM.out ho
  have HA:=hid hA
  clear ho hA
  go_wp2
  go_ret
  exact⟨_,rfl,HA.out,HK5.out⟩
theorem Bd(h:Blk w g t #[v0,v1]):w.cell? ⟨g,0,none⟩=some v0∧w.cell? ⟨g,1,none⟩=some v1∧w.frozen? ⟨g,0,none⟩=false∧w.frozen? ⟨g,1,none⟩=false∧g<w.heap.size:=
 ⟨h.cell 0,h.cell 1,h.free 0,h.free 1,h.lt⟩
def Cn:Nat→Nat→List UInt8→Nat × Nat × Int
 | i,x,[]=>(0,i,1)
 | i,x,c::l=>
  if i=9∧1<c.toNat then (0,i+1,5)
  else if 0<i∧c.toNat=0 then (0,i+1,4)
  else if c.toNat<128 then (x+c.toNat*128^i,i+1,0)
  else Cn (i+1) (x+c.toNat%128*128^i) l
def Rs.num(B:List UInt8)(s:Rs):Rs × Nat:=
 if s.k=0 then
  let r:=Cn 0 0 (B.drop s.p)
  (⟨s.p+r.2.1,r.2.2,if r.2.2=0 then 0 else if r.2.2=1 then B.length else s.p+r.2.1-1⟩,r.1)
 else (s,0)
theorem H4:∀(l:List UInt8) (i x:Nat),(Cn i x l).2.1≤i+l.length∧i≤(Cn i x l).2.1∧((Cn i x l).2.2=0∨(Cn i x l).2.2=1∨(Cn i x l).2.2=4∨(Cn i x l).2.2=5)∧((Cn i x l).2.2=1→(Cn i x l).2.1=i+l.length)∧((Cn i x l).2.2≠1→i<(Cn i x l).2.1)
 | [],i,x=>by simp[Cn]
 | c::l,i,x=>by
  unfold Cn
  split
  ·simp
  ·split
   ·simp
   ·split
    ·simp
    ·have:=H4 l (i+1) (x+c.toNat%128*128^i)
     refine⟨zI,zC,this.2.2.1,fun h=>by have:=this.2.2.2.1 h;simp;omega,fun h=>by have:=this.2.2.2.2 h;omega⟩
theorem Rs.CZ{s:Rs}(h:s.ok B.length):(s.num B).1.ok B.length:=by
 unfold Rs.num
 split
 ·have:=H4 (B.drop s.p) 0 0
  have hl:(B.drop s.p).length=B.length-s.p:=zM
  refine⟨by dsimp only;have:=h.le;omega,fun e=>by dsimp only at e ⊢;rw[Ag e]⟩
 ·exact h
theorem Rs.WM{s:Rs}:s.p≤(s.num B).1.p:=by
 unfold Rs.num
 split
 ·dsimp only;omega
 ·exact As _
theorem Rs.P7{s:Rs}(h:(s.num B).1.k≠0):(s.num B).2=0:=by
 have key:∀(l:List UInt8) (i x:Nat),(Cn i x l).2.2≠0→(Cn i x l).1=0:=by
  intro l
  induction l with
  | nil=>intro i x h;rfl
  | cons c l ih=>
   intro i x h
   unfold Cn at h ⊢
   split
   ·rfl
   ·rename_i h1
    rw[Ai h1] at h
    split
    ·rfl
    ·rename_i h2
     rw[Ai h2] at h
     split
     ·rename_i h3
      rw[Ag h3] at h;simp at h
     ·rename_i h3
      rw[Ai h3] at h
      exact ih _ _ h
 unfold Rs.num at*
 split
 ·rename_i h0
  rw[Ag h0] at h
  exact key _ _ _ h
 ·rfl
theorem MQ:∀(l:List UInt8) (i x:Nat),i≤9→x<128^i→(Cn i x l).1<18446744073709551616
 | [],i,x,_,_=>by simp[Cn]
 | c::l,i,x,hi,hx=>by
  unfold Cn
  have hc:=c.toNat_lt
  split
  ·simp
  ·rename_i h9
   split
   ·simp
   ·split
    ·rename_i h3
     dsimp only
     by_cases h:i=9
     ·subst h
      have:c.toNat≤1:=zC
      have h1:c.toNat*128^9≤1*128^9:=CO _ this
      have h2:(128:Nat)^9=9223372036854775808:=zL
      rw[h2] at*
      omega
     ·have h1:c.toNat*128^i≤127*128^i:=CO _ zC
      have h2:(128:Nat)^i≤128^8:=Nat.pow_le_pow_right zC zC
      have h3:(128:Nat)^8=72057594037927936:=zL
      rw[h3] at h2
      omega
    ·rename_i h3
     have h9':i≠9:=fun e=>h9 ⟨e,zC⟩
     refine MQ l (i+1) _ zC ?_
     have h1:c.toNat%128*128^i≤127*128^i:=CO _ zC
     rw[FQ]
     omega
theorem Rs.ET{s:Rs}:(s.num B).2<18446744073709551616:=by
 unfold Rs.num
 split
 ·exact MQ _ 0 0 zC zM
 ·simp
end Go.Proofs.YtfddhafbhceoaaaGreat
namespace Go.Bs
open Go.RowKit
def O1(J:Nat→Act→World→Prop)(Q:Exit→Act→World→Prop):Exit→Act→World→Prop
 | .goto l,a,w=>J l a w
 | e,a,w=>Q e a w
section
variable {P:Program} {a:Act} {w:World} {Q:Exit→Act→World→Prop}
theorem Oh{c:Code}(J:Nat→Act→World→Prop)(μ:Nat→Act→World→Nat)
 (pass:∀l a w,J l a w→∃rest,findLabel c l=some rest∧rest.wp P (O1 (fun l' a' w'=>J l' a' w'∧μ l' a' w'<μ l a w) Q) a w)
 (first:c.wp P (O1 J Q) a w):(Code.scope c).wp P Q a w:=by
 intro b k cs
 have hg:∀{l rest},findLabel c l=some rest→gotoIn l (.inScope c::k)=some (.code rest:: .inScope c::k):=fun hf=>by simp[gotoIn,hf]
 have key:∀n l a w rest,findLabel c l=some rest→μ l a w=n→J l a w→∃e a' w',Q e a' w'∧Arrives P (lone (b.at a (.code rest:: .inScope c::k)) cs w) b k cs e a' w':=by
  intro n
  induction n using Nat.strongRecOn with
  | _ n ih=>
   intro l a w rest hf hn hJ
   obtain⟨rest',hf',hp⟩:=pass l a w hJ
   obtain rfl:rest'=rest:=AR (hf'.symm.trans hf)
   obtain⟨e,a₁,w₁,hq,harr⟩:=hp b (.inScope c::k) cs
   cases e with
   | normal=>exact ⟨.normal,a₁,w₁,hq,Steps.trans harr (.one step_inScope)⟩
   | exit id=>exact ⟨.exit id,a₁,w₁,hq,fun k' hk=>harr k' (by simp[exitTo,hk])⟩
   | goto l'=>
    obtain⟨hJ',hlt⟩:=hq
    obtain⟨rest2,hf2,_⟩:=pass l' a₁ w₁ hJ'
    obtain⟨e₂,a₂,w₂,hq₂,harr₂⟩:=ih _ zC l' a₁ w₁ rest2 hf2 rfl hJ'
    exact⟨e₂,a₂,w₂,hq₂,.of_steps (harr _ (hg hf2)) harr₂⟩
   | ret=>exact ⟨_,a₁,w₁,hq,harr⟩
   | panic ch=>exact ⟨_,a₁,w₁,hq,harr⟩
   | outgrown=>exact ⟨_,a₁,w₁,hq,harr⟩
 obtain⟨e,a₁,w₁,hq,harr⟩:=first b (.inScope c::k) cs
 cases e with
 | normal=>exact ⟨.normal,a₁,w₁,hq,.head step_scope (Steps.trans harr (.one step_inScope))⟩
 | exit id=>exact ⟨.exit id,a₁,w₁,hq,fun k' hk=> .head step_scope (harr k' (by simp[exitTo,hk]))⟩
 | goto l'=>
  obtain⟨rest2,hf2,_⟩:=pass l' a₁ w₁ hq
  obtain⟨e₂,a₂,w₂,hq₂,harr₂⟩:=key _ l' a₁ w₁ rest2 hf2 rfl hq
  exact⟨e₂,a₂,w₂,hq₂,.of_steps (.head step_scope (harr _ (hg hf2))) harr₂⟩
 | ret=>exact ⟨_,a₁,w₁,hq,.of_steps (.one step_scope) harr⟩
 | panic ch=>exact ⟨_,a₁,w₁,hq,.of_steps (.one step_scope) harr⟩
 | outgrown=>exact ⟨_,a₁,w₁,hq,.of_steps (.one step_scope) harr⟩
theorem IX{c:Code}(h:c.wp P Q a w):(Code.skip.seq c).wp P Q a w:=wp_seq (wp_skip h)
theorem MN{c rest:Code}(l:Nat)(J:Act→World→Prop)(μ:Act→World→Nat)(hf:findLabel c l=some (Code.skip.seq rest))
 (pass:∀a w,J a w→rest.wp P (Exit.jump l (fun a' w'=>J a' w'∧μ a' w'<μ a w) Q) a w)
 (first:∀K:Exit→Act→World→Prop,(∀a w,J a w→rest.wp P K a w)→c.wp P K a w):(Code.scope c).wp P Q a w:=
 wp_scope_jumps l J μ hf (first _ fun a w h=>wp_mono (pass a w h) fun e a' w' hq=>by
  cases e<;>first | exact hq | exact⟨hq.1,hq.2.1⟩) fun a w h=>IX (pass a w h)
theorem PF{c rest rest2:Code}(l m:Nat)(hlm:l≠m)(J J2:Act→World→Prop)(μ:Act→World→Nat)(hf:findLabel c l=some (Code.skip.seq rest))(hf2:findLabel c m=some (Code.skip.seq rest2))
 (pass:∀a w,J a w→rest.wp P (O1 (fun l' a' w'=>(l'=l∧J a' w'∧μ a' w'<μ a w)∨(l'=m∧J2 a' w')) Q) a w)
 (last:∀a w,J2 a w→rest2.wp P (O1 (fun _ _ _=>False) Q) a w)
 (first:∀K:Exit→Act→World→Prop,(∀a w,J a w→rest.wp P K a w)→c.wp P K a w):(Code.scope c).wp P Q a w:=by
 refine Oh (fun l' a w=>(l'=l∧J a w)∨(l'=m∧J2 a w)) (fun l' a w=>if l'=l then μ a w+1 else 0) ?_ ?_
 ·rintro l' a w (⟨rfl,h⟩ | ⟨rfl,h⟩)
  ·refine⟨_,hf,IX (wp_mono (pass a w h) fun e a' w' hq=> ?_)⟩
   cases e<;>first | exact hq | skip
   rcases hq with ⟨rfl,h1,h2⟩ | ⟨rfl,h1⟩
   ·exact⟨.inl ⟨rfl,h1⟩,zI⟩
   ·exact⟨.inr ⟨rfl,h1⟩,by simp[Ne.symm hlm]⟩
  ·refine⟨_,hf2,IX (wp_mono (last a w h) fun e a' w' hq=> ?_)⟩
   cases e<;>first | exact hq | exact hq.elim
 ·refine first _ fun a w h=>wp_mono (pass a w h) fun e a' w' hq=> ?_
  cases e<;>first | exact hq | skip
  rcases hq with ⟨rfl,h1,_⟩ | ⟨rfl,h1⟩
  ·exact .inl ⟨rfl,h1⟩
  ·exact .inr ⟨rfl,h1⟩
end
end Go.Bs
namespace Go.Proofs.YtfddhafbhceoaaaGreat
open Go.RowKit Go.Bs Go.Maps
variable{bound m:Int}{B l:List UInt8}{L base c g hi i k n off sz:Nat}{S:Nat → Prop}{a:Option Addr}{t:TypeId}{v v0 v1:Value}{w:World}
def Sz(L p i:Nat)(r:Nat × Nat × Int):Rs × Nat:=(⟨p+r.2.1-i,r.2.2,if r.2.2=0 then 0 else if r.2.2=1 then L else ((p+r.2.1-i:Nat):Int)-1⟩,r.1)
def vgo(B:List UInt8)(i X:Nat)(s:Rs):Rs × Nat:=if s.k=0 then Sz B.length s.p i (Cn i X (B.drop s.p)) else (s,0)
theorem XS(B:List UInt8)(s:Rs):vgo B 0 0 s=s.num B:=by
 unfold vgo Rs.num Sz
 simp
theorem UG(i x:Nat)(c:UInt8)(l:List UInt8):Cn i x (c::l)=if i=9∧1<c.toNat then (0,i+1,5) else if 0<i∧c.toNat=0 then (0,i+1,4) else if c.toNat<128 then (x+c.toNat*128^i,i+1,0) else Cn (i+1) (x+c.toNat%128*128^i) l:=by rw[Cn]
theorem Wh{s:Rs}(hs:s.ok B.length)(i X:Nat):vgo B i X s=
  if (s.byte B).1.k=0 then
   (if i=9∧1<(s.byte B).2.toNat then ((s.byte B).1.fail 5 ((s.byte B).1.p-1),0)
   else if 0<i∧(s.byte B).2.toNat=0 then ((s.byte B).1.fail 4 ((s.byte B).1.p-1),0)
   else if (s.byte B).2.toNat<128 then ((s.byte B).1,X+(s.byte B).2.toNat*128^i)
   else vgo B (i+1) (X+(s.byte B).2.toNat%128*128^i) (s.byte B).1)
  else ((s.byte B).1,0):=by
 have hle:=hs.le
 unfold Rs.byte
 by_cases h0:s.k=0
 ·by_cases h1:s.p<B.length
  ·have e:s.skip B.length 1=(true,⟨s.p+1,0,0⟩):=by
    unfold Rs.skip;rw[Ag h0,Ai zC,Ai zC];simp
   rw[e]
   have hd:B.drop s.p=B.getD s.p 0::B.drop (s.p+1):=by
    rw[AO h1];simp[h1]
   simp only[IL]
   unfold vgo
   rw[Ag h0,hd,UG]
   have hu:=(H4 (B.drop (s.p+1)) (i+1) (X+(B.getD s.p 0).toNat%128*128^i)).2.1
   have e1:s.p+(i+1)-i=s.p+1:=zC
   split
   ·simp[Sz,Rs.fail,e1]
   ·split
    ·simp[Sz,Rs.fail,e1]
    ·split
     ·simp[Sz,e1]
     ·generalize Cn (i+1) (X+(B.getD s.p 0).toNat%128*128^i) (B.drop (s.p+1))=r at*
      simp only[IL,Sz]
      rw[show s.p+r.2.1-i=s.p+1+r.2.1-(i+1) by omega]
  ·have e:s.skip B.length 1=(false,⟨s.p,1,B.length⟩):=by
    unfold Rs.skip;rw[Ag h0,Ai zC,Ag zC]
   rw[e]
   have hd:B.drop s.p=[]:=GG zC
   unfold vgo
   rw[Ag h0,hd]
   simp[Cn,Sz]
 ·have e:s.skip B.length 1=(false,s):=by unfold Rs.skip;rw[Ai h0]
  rw[e]
  unfold vgo
  rw[Ai h0]
  simp[h0]
theorem WK{X m:Nat}(hX:X<128^i)(hx:X<18446744073709551616)(hm:m*128^i<18446744073709551616):bits .or .u64 (X:Int) ((m*128^i:Nat):Int)=((X+m*128^i:Nat):Int):=by
 rw[bits_or_u64_nat _ _ hx hm]
 have h1:(128:Nat)^i=2^(7*i):=by rw[Nat.pow_mul]
 rw[h1] at hX ⊢
 rw[Nat.or_comm,←Nat.shiftLeft_eq,←Nat.shiftLeft_add_eq_or_of_lt hX,Nat.add_comm]
theorem JH{X:Nat}(hX:X<128^i)(hx:X<18446744073709551616)(hm:c%128*128^i<18446744073709551616):bits .or .u64 (X:Int) (IntKind.u64.wrap ((c:Int)%128*2^(7*i)))=((X+c%128*128^i:Nat):Int):=by
 have e:(c:Int)%128*2^(7*i)=((c%128*128^i:Nat):Int):=by
  rw[show (128:Nat)^i=2^(7*i) by rw[Nat.pow_mul]]
  simp
 rw[e,IntKind.wrap_u64,Int.emod_eq_of_lt zC zC]
 exact WK hX hx hm
theorem TV{X:Nat}(hX:X<128^i):X+c%128*128^i<128^(i+1):=by
 have h1:c%128*128^i≤127*128^i:=CO _ zC
 rw[FQ]
 omega
theorem IG{X:Nat}(hi:i≤9)(hX:X<128^i)(h:i=9→c≤1):c%128*128^i<18446744073709551616∧X<18446744073709551616:=by
 by_cases h9:i=9
 ·subst h9
  have h1:(128:Nat)^9=9223372036854775808:=zL
  rw[h1] at*
  have:=h rfl
  have h2:c%128*9223372036854775808≤1*9223372036854775808:=CO _ zC
  omega
 ·have h1:(128:Nat)^i≤128^8:=Nat.pow_le_pow_right zC zC
  have h3:(128:Nat)^8=72057594037927936:=zL
  have h2:c%128*128^i≤127*128^i:=CO _ zC
  omega
theorem NV{s:Rs}{q:Nat}(hp:s.p=q)(h:(s.byte B).1.k=0):(s.byte B).1.p=q+1:=by
 have h':(s.skip B.length 1).2.k=0:=h
 cases hk:(s.skip B.length 1).1
 ·exact absurd h' (Rs.Io hk).1
 ·have:=(Rs.Fv hk).2.2.2
  show (s.skip B.length 1).2.p=_
  rw[this,hp];rfl
theorem CW(w:World){g:Nat}{B:List UInt8}{a:Option Addr}{s:Rs}(h:AS w g B a s)(hB:B.length≤1000000000000):Calls Tryz.prog 174 #[.pointer (some ⟨g,0,none⟩)] w fun r w'=>r=.returned (.int .u64 ((s.num B).2:Int))∧AE w g B a (s.num B).1 w':=by
 have HH:=hid h
 have HA:=hid (Cd w h)
 have hpL:=h.ok.le
 clear h
 go_enter Tryz.func174,Tryz.ntmps174
 go_wp2
 refine MN 0 (fun a' W=>∃(i X:Nat) (s':Rs) (rest:Hid (vgo B i X s'=s.num B)) (u1 u4 u7 u8 u9 u10 u11 u12 u13 u14 u15 u16 u17 u18 u19 u20 u21 u22 u23 u24 u25 u26 u27 u28 u29 u30 u31 u32 u33 u34 u35 u36 u37 u38 u39 u40 u41 u42 u43 u44 u45 u46 u47 u48 u49 u50 u51 u52 u53:Value),AE w g B a s' W∧s'.p=s.p+i∧i≤9∧X<128^i∧a'={tmps:=#[.pointer (some ⟨g,0,none⟩),u1,.int .u64 0,.int .u64 (X:Int),u4,.int .i64 (7*(i:Int)),.int .i64 (s.p:Int),u7,u8,u9,u10,u11,u12,u13,u14,u15,u16,u17,u18,u19,u20,u21,u22,u23,u24,u25,u26,u27,u28,u29,u30,u31,u32,u33,u34,u35,u36,u37,u38,u39,u40,u41,u42,u43,u44,u45,u46,u47,u48,u49,u50,u51,u52,u53],defers:=[]}) (fun a' _=>70-(intOf (a'.tmps.getD 5 undef)).toNat) rfl ?_ ?_
 ·rintro a' W ⟨i,X,s',hrest,u1,u4,u7,u8,u9,u10,u11,u12,u13,u14,u15,u16,u17,u18,u19,u20,u21,u22,u23,u24,u25,u26,u27,u28,u29,u30,u31,u32,u33,u34,u35,u36,u37,u38,u39,u40,u41,u42,u43,u44,u45,u46,u47,u48,u49,u50,u51,u52,u53,hst,hp,hi,hX,rfl⟩
  have hk:=hst.1
  have hB1:=hid (KG W hk)
  have hvs:=hid (Wh hk.ok i X)
  have hbok:=Rs.Hp hk.ok
  have HBP:Hid ((s'.byte B).1.k=0→(s'.byte B).1.p=s.p+i+1):=hid (NV hp)
  rw[hrest.out] at hvs
  clear hrest
  generalize s'.byte B=b at*
  obtain⟨b1,c⟩:=b
  dsimp only at hB1 hvs hbok
  go_wp2_with fail
  refine hB1.out.mono ?_
  rintro r w1 ⟨rfl,hst1⟩
  have hstW:=hst
  by_cases hbk:b1.k=0
  ·have hG:=AK w1 hst1.1
   rw[Ad hbk] at hG
   have HG:=hid hG
   have HK:=hid hbk
   have hc:=c.toNat_lt
   have hbge:1≤b1.p:=by have:=HBP.out hbk;omega
   have hpl:=hbok.le
   clear hG hbk
   go_wp2_with fail
   refine HG.out.mono ?_
   rintro r w2 ⟨rfl,hb2⟩
   by_cases h9:i=9
   ·have d1:((7*(i:Int))==63)=true:=by rw[h9];rfl
    by_cases hc1:1<c.toNat
    ·have d2:decide ((1:Int)<(c.toNat:Int))=true:=Ad zC
     have HF:=hid (Bx w2 (hst1.1.later hb2) 5 ((b1.p:Int)-1) zC)
     have HAT:=hid (Cd w2 (hst1.1.later hb2))
     replace hvs:=hvs.out
     rw[Ag HK.out,Ag ⟨h9,hc1⟩] at hvs
     have HN:=hid hvs
     clear hvs
     (try clear h9);(try clear hc0);(try clear hc1);(try clear hi0);(try clear hc7)
     have HST1:=hid hst1
     clear hst1 hst hk hbok
     go_wp2_with fail
     refine HAT.out.mono ?_
     rintro r w2' ⟨rfl,rfl⟩
     go_wp2_with fail
     refine HF.out.mono ?_
     rintro r w3 ⟨rfl,hst3⟩
     have HST3:=hid (AE.trans HST1.out.2 (AE.trans (Tch.AW (F:=(·=g)) hb2) hst3))
     have HSTW:=hid hstW
     clear hst3 hstW
     go_wp2
     simp only[Exit.jump]
     go_ret
     rw[HN.out];exact⟨rfl,AE.trans HSTW.out.2 HST3.out⟩
    ·have d2:decide ((1:Int)<(c.toNat:Int))=false:=Ae zC
     have d5:decide ((128:Int)≤(c.toNat:Int))=false:=Ae zC
     by_cases hc0:c.toNat=0
     ·have d3:((c.toNat:Int)==0)=true:=by rw[hc0];rfl
      have d4:decide ((s.p:Int)<(b1.p:Int)-1)=true:=Ad zBi
      have HF:=hid (Bx w2 (hst1.1.later hb2) 4 ((b1.p:Int)-1) zC)
      have HAT:=hid (Cd w2 (hst1.1.later hb2))
      replace hvs:=hvs.out
      rw[Ag HK.out,Ai (fun e=>hc1 e.2),Ag ⟨zC,hc0⟩] at hvs
      have HN:=hid hvs
      clear hvs
      (try clear h9);(try clear hc0);(try clear hc1);(try clear hi0);(try clear hc7)
      have HST1:=hid hst1
      clear hst1 hst hk hbok
      go_wp2_with fail
      refine HAT.out.mono ?_
      rintro r w2' ⟨rfl,rfl⟩
      go_wp2_with fail
      refine HAT.out.mono ?_
      rintro r w2' ⟨rfl,rfl⟩
      go_wp2_with fail
      refine HF.out.mono ?_
      rintro r w3 ⟨rfl,hst3⟩
      have HST3:=hid (AE.trans HST1.out.2 (AE.trans (Tch.AW (F:=(·=g)) hb2) hst3))
      have HSTW:=hid hstW
      clear hst3 hstW
      go_wp2
      simp only[Exit.jump]
      go_ret
      rw[HN.out];exact⟨rfl,AE.trans HSTW.out.2 HST3.out⟩
     ·have d3:((c.toNat:Int)==0)=false:=by simp[hc0]
      have HAT:=hid (Cd w2 (hst1.1.later hb2))
      replace hvs:=hvs.out
      rw[Ag HK.out,Ai (fun e=>hc1 e.2),Ai (fun e=>hc0 e.2),Ag zC] at hvs
      have HN:=hid hvs
      clear hvs
      have HC7:Hid (c.toNat%128=c.toNat):=hid (IN zC)
      have HSTW:=hid hstW
      have hmul:c.toNat%128*128^i<18446744073709551616∧X<18446744073709551616:=IG hi hX zC
      have E1:=hid (JH (c:=c.toNat) hX hmul.2 hmul.1)
      clear hmul
      clear hstW;(try clear h9);(try clear hc0);(try clear hc1);(try clear hi0);(try clear hc7)
      have HST1:=hid hst1
      clear hst1 hst hk hbok
      go_wp2_with fail
      go_wp2
      simp only[Exit.jump]
      go_ret
      rw[HN.out]
      refine⟨?_,AE.trans HSTW.out.2 (HST1.out.then hb2)⟩
      show Ending.returned (Value.int .u64 _)=_
      rw[E1.out,HC7.out]
   ·have d1:((7*(i:Int))==63)=false:=by rw[BL];omega
    by_cases hc0:c.toNat=0
    ·have d3:((c.toNat:Int)==0)=true:=by rw[hc0];rfl
     by_cases hi0:0<i
     ·have d4:decide ((s.p:Int)<(b1.p:Int)-1)=true:=Ad zBi
      have HF:=hid (Bx w2 (hst1.1.later hb2) 4 ((b1.p:Int)-1) zC)
      have HAT:=hid (Cd w2 (hst1.1.later hb2))
      replace hvs:=hvs.out
      rw[Ag HK.out,Ai (fun e=>h9 e.1),Ag ⟨hi0,hc0⟩] at hvs
      have HN:=hid hvs
      clear hvs
      (try clear h9);(try clear hc0);(try clear hc1);(try clear hi0);(try clear hc7)
      have HST1:=hid hst1
      clear hst1 hst hk hbok
      go_wp2_with fail
      refine HAT.out.mono ?_
      rintro r w2' ⟨rfl,rfl⟩
      go_wp2_with fail
      refine HAT.out.mono ?_
      rintro r w2' ⟨rfl,rfl⟩
      go_wp2_with fail
      refine HF.out.mono ?_
      rintro r w3 ⟨rfl,hst3⟩
      have HST3:=hid (AE.trans HST1.out.2 (AE.trans (Tch.AW (F:=(·=g)) hb2) hst3))
      have HSTW:=hid hstW
      clear hst3 hstW
      go_wp2
      simp only[Exit.jump]
      go_ret
      rw[HN.out];exact⟨rfl,AE.trans HSTW.out.2 HST3.out⟩
     ·have d4:decide ((s.p:Int)<(b1.p:Int)-1)=false:=Ae zBi
      have d5:decide ((128:Int)≤(c.toNat:Int))=false:=Ae zC
      have HAT:=hid (Cd w2 (hst1.1.later hb2))
      replace hvs:=hvs.out
      rw[Ag HK.out,Ai (fun e=>h9 e.1),Ai (fun e=>hi0 e.1),Ag zC] at hvs
      have HN:=hid hvs
      clear hvs
      have HC7:Hid (c.toNat%128=c.toNat):=hid (IN zC)
      have HSTW:=hid hstW
      have hmul:c.toNat%128*128^i<18446744073709551616∧X<18446744073709551616:=IG hi hX zC
      have E1:=hid (JH (c:=c.toNat) hX hmul.2 hmul.1)
      clear hmul
      clear hstW;(try clear h9);(try clear hc0);(try clear hc1);(try clear hi0);(try clear hc7)
      have HST1:=hid hst1
      clear hst1 hst hk hbok
      go_wp2_with fail
      refine HAT.out.mono ?_
      rintro r w2' ⟨rfl,rfl⟩
      go_wp2_with fail
      go_wp2
      simp only[Exit.jump]
      go_ret
      rw[HN.out]
      refine⟨?_,AE.trans HSTW.out.2 (HST1.out.then hb2)⟩
      show Ending.returned (Value.int .u64 _)=_
      rw[E1.out,HC7.out]
    ·have d3:((c.toNat:Int)==0)=false:=by simp[hc0]
     by_cases hc7:c.toNat<128
     ·have d5:decide ((128:Int)≤(c.toNat:Int))=false:=Ae zC
      have HAT:=hid (Cd w2 (hst1.1.later hb2))
      replace hvs:=hvs.out
      rw[Ag HK.out,Ai (fun e=>h9 e.1),Ai (fun e=>hc0 e.2),Ag hc7] at hvs
      have HN:=hid hvs
      clear hvs
      have HC7:Hid (c.toNat%128=c.toNat):=hid (IN zC)
      have HSTW:=hid hstW
      have hmul:c.toNat%128*128^i<18446744073709551616∧X<18446744073709551616:=IG hi hX zC
      have E1:=hid (JH (c:=c.toNat) hX hmul.2 hmul.1)
      clear hmul
      clear hstW;(try clear h9);(try clear hc0);(try clear hc1);(try clear hi0);(try clear hc7)
      have HST1:=hid hst1
      clear hst1 hst hk hbok
      go_wp2_with fail
      go_wp2
      simp only[Exit.jump]
      go_ret
      rw[HN.out]
      refine⟨?_,AE.trans HSTW.out.2 (HST1.out.then hb2)⟩
      show Ending.returned (Value.int .u64 _)=_
      rw[E1.out,HC7.out]
     ·have d5:decide ((128:Int)≤(c.toNat:Int))=true:=Ad zC
      have HAT:=hid (Cd w2 (hst1.1.later hb2))
      replace hvs:=hvs.out
      rw[Ag HK.out,Ai (fun e=>h9 e.1),Ai (fun e=>hc0 e.2),Ai hc7] at hvs
      have HN:=hid hvs
      clear hvs
      have hi8:i+1≤9:=zC
      have HX8:=hid (TV (c:=c.toNat) hX)
      have HSTW:=hid hstW
      have hmul:c.toNat%128*128^i<18446744073709551616∧X<18446744073709551616:=IG hi hX (fun e=>absurd e h9)
      have E1:=hid (JH (c:=c.toNat) hX hmul.2 hmul.1)
      clear hmul
      clear hstW;(try clear h9);(try clear hc0);(try clear hc1);(try clear hi0);(try clear hc7)
      have HST1:=hid hst1
      clear hst1 hst hk hbok
      go_wp2_with fail
      go_step3
      rw[E1.out,show 7*(i:Int)+7=7*((i+1:Nat):Int) by omega]
      refine⟨rfl,⟨i+1,_,b1,hid HN.out.symm,_,_,_,_,_,_,_,_,_,_,_,_,_,_,_,_,_,_,_,_,_,_,_,_,_,_,_,_,_,_,_,_,_,_,_,_,_,_,_,_,_,_,_,_,_,_,_,_,_,AE.trans HSTW.out.2 (HST1.out.then hb2),HBP.out HK.out,hi8,HX8.out,rfl⟩,?_⟩
      simp[intOf]
      omega
  ·have hG:=AK w1 hst1.1
   rw[Ae hbk] at hG
   have HG:=hid hG
   replace hvs:=hvs.out
   rw[Ai hbk] at hvs
   have HN:=hid hvs
   clear hvs
   have HST1:=hid hst1
   have HSTW:=hid hstW
   clear hG hbk hst1 hst hk hbok hstW
   go_wp2_with fail
   refine HG.out.mono ?_
   rintro r w2 ⟨rfl,hb2⟩
   go_wp2
   simp only[Exit.jump]
   go_ret
   rw[HN.out];exact⟨rfl,AE.trans HSTW.out.2 (HST1.out.then hb2)⟩
 ·intro K hK
  go_wp2_with fail
  refine HA.out.mono ?_
  rintro r w1 ⟨rfl,rfl⟩
  go_wp2
  go_step3
  rename_i hkk
  exact hkk _ _ (hK _ _ ⟨0,0,s,hid (XS B s),_,_,_,_,_,_,_,_,_,_,_,_,_,_,_,_,_,_,_,_,_,_,_,_,_,_,_,_,_,_,_,_,_,_,_,_,_,_,_,_,_,_,_,_,_,_,_,_,_,AE.refl HH.out,zC,zC,zM,rfl⟩)
def Rs.most(B:List UInt8)(s:Rs)(m:Nat):Rs × Nat:=if m<(s.num B).2 then ((s.num B).1.fail 2 s.p,0) else s.num B
def Rs.int(B:List UInt8)(s:Rs)(m:Int):Rs × Nat:=if 0≤m then s.most B m.toNat else ((s.num B).1.fail 2 s.p,0)
def Rs.head(B:List UInt8)(s:Rs):Rs × Bool × Nat:=
 if (s.num B).1.k=0 then
  (if (s.num B).2%2=1 then (if 1048572<(s.num B).2/2 then ((s.num B).1.fail 2 s.p,false,0) else ((s.num B).1,true,(s.num B).2/2+4))
  else (if 1048575<(s.num B).2/2 then ((s.num B).1.fail 2 s.p,false,0) else ((s.num B).1,false,(s.num B).2/2+1)))
 else ((s.num B).1,false,0)
def Rs.offset(B:List UInt8)(s:Rs):Rs × Nat:=
 let t:=if 65536≤(s.num B).2 then (s.num B).1.fail 10 s.p else (s.num B).1
 (t,if t.k=0 then (s.num B).2+1 else 0)
theorem Rs.Yh{s:Rs}(h:s.ok B.length){m:Nat}:(s.most B m).1.ok B.length:=by
 unfold Rs.most;split
 ·exact Rs.Ck (Rs.CZ h) zC
 ·exact Rs.CZ h
theorem Rs.Eo{s:Rs}(h:s.ok B.length):(s.int B m).1.ok B.length:=by
 unfold Rs.int;split
 ·exact Rs.Yh h
 ·exact Rs.Ck (Rs.CZ h) zC
theorem Rs.ID{s:Rs}(h:s.ok B.length):(s.head B).1.ok B.length:=by
 unfold Rs.head;split
 ·split
  ·split
   ·exact Rs.Ck (Rs.CZ h) zC
   ·exact Rs.CZ h
  ·split
   ·exact Rs.Ck (Rs.CZ h) zC
   ·exact Rs.CZ h
 ·exact Rs.CZ h
theorem Rs.Lt{s:Rs}(h:s.ok B.length):(s.offset B).1.ok B.length:=by
 unfold Rs.offset;dsimp only;split
 ·exact Rs.Ck (Rs.CZ h) zC
 ·exact Rs.CZ h
theorem Rs.E6{s:Rs}:(s.int B m).2≤m.toNat:=by
 unfold Rs.int Rs.most;split
 ·split
  ·simp
  ·omega
 ·simp
theorem QM(w:World){g:Nat}{B:List UInt8}{a:Option Addr}{s:Rs}(h:AS w g B a s)(hB:B.length≤1000000000000)(m:Nat):Calls Tryz.prog 172 #[.pointer (some ⟨g,0,none⟩),.int .u64 (m:Int)] w fun r w'=>r=.returned (.int .u64 ((s.most B m).2:Int))∧AE w g B a (s.most B m).1 w':=by
 have HA:=hid (Cd w h)
 have HN:=hid (CW w h hB)
 unfold Rs.most
 generalize s.num B=N at*
 obtain⟨s1,x⟩:=N
 dsimp only at*
 clear h
 by_cases hm:m<x
 ·have d1:decide (m<x)=true:=Ad hm
  have d1':decide ((m:Int)<(x:Int))=true:=Ad zC
  rw[Ag hm]
  clear hm
  go_enter Tryz.func172,Tryz.ntmps172
  go_wp2_with fail
  refine HA.out.mono ?_
  rintro r w' ⟨rfl,rfl⟩
  go_wp2_with fail
  refine HN.out.mono ?_
  rintro r w1 ⟨rfl,hst⟩
  have HF:=hid (Bx w1 hst.1 2 s.p zC)
  have HST:=hid hst
  clear hst
  go_wp2_with fail
  refine HF.out.mono ?_
  rintro r w2 ⟨rfl,hst2⟩
  have HST2:=hid hst2
  clear hst2
  go_wp2
  go_ret
  exact⟨rfl,AE.trans HST.out.2 HST2.out⟩
 ·have d1:decide (m<x)=false:=Ae hm
  have d1':decide ((m:Int)<(x:Int))=false:=Ae zC
  rw[Ai hm]
  clear hm
  go_enter Tryz.func172,Tryz.ntmps172
  go_wp2_with fail
  refine HA.out.mono ?_
  rintro r w' ⟨rfl,rfl⟩
  go_wp2_with fail
  refine HN.out.mono ?_
  rintro r w1 ⟨rfl,hst⟩
  have HST:=hid hst
  clear hst
  go_wp2
  go_ret
  exact⟨rfl,HST.out⟩
theorem CE(w:World){g:Nat}{B:List UInt8}{a:Option Addr}{s:Rs}(h:AS w g B a s)(hB:B.length≤1000000000000)(m:Int)(hm: -9223372036854775808≤m∧m≤9223372036854775807):Calls Tryz.prog 110 #[.pointer (some ⟨g,0,none⟩),.int .i64 m] w fun r w'=>r=.returned (.int .i64 ((s.int B m).2:Int))∧AE w g B a (s.int B m).1 w':=by
 by_cases h0:0≤m
 ·obtain⟨n,rfl⟩:∃n:Nat,m=n:=⟨m.toNat,zC⟩
  have HM:=hid (QM w h hB n)
  have hle:(s.int B n).2≤9223372036854775807:=by have:=Rs.E6 (B:=B) (s:=s) (m:=(n:Int));omega
  have e:s.int B n=s.most B n:=by unfold Rs.int;rw[Ag h0];rfl
  rw[e] at hle ⊢
  have d1:decide ((0:Int)≤(n:Int))=true:=Ad h0
  generalize s.most B n=N at*
  obtain⟨s1,x⟩:=N
  dsimp only at*
  clear h e
  go_enter Tryz.func110,Tryz.ntmps110
  go_wp2_with fail
  refine HM.out.mono ?_
  rintro r w1 ⟨rfl,hst⟩
  have HST:=hid hst
  clear hst
  go_wp2
  go_ret
  exact⟨rfl,HST.out⟩
 ·have HA:=hid (Cd w h)
  have HN:=hid (CW w h hB)
  have e:s.int B m=((s.num B).1.fail 2 s.p,0):=by unfold Rs.int;rw[Ai h0]
  rw[e]
  have d1:decide ((0:Int)≤m)=false:=Ae h0
  generalize s.num B=N at*
  obtain⟨s1,x⟩:=N
  dsimp only at*
  clear h e h0
  go_enter Tryz.func110,Tryz.ntmps110
  go_wp2_with fail
  refine HA.out.mono ?_
  rintro r w' ⟨rfl,rfl⟩
  go_wp2_with fail
  refine HN.out.mono ?_
  rintro r w1 ⟨rfl,hst⟩
  have HF:=hid (Bx w1 hst.1 2 s.p zC)
  have HST:=hid hst
  clear hst
  go_wp2_with fail
  refine HF.out.mono ?_
  rintro r w2 ⟨rfl,hst2⟩
  have HST2:=hid hst2
  clear hst2
  go_wp2
  go_ret
  exact⟨rfl,AE.trans HST.out.2 HST2.out⟩
theorem SD(w:World){B:List UInt8}{s:Rs}(h:AS w g B a s)(hB:B.length≤1000000000000):Calls Tryz.prog 329 #[.pointer (some ⟨g,0,none⟩)] w fun r w'=>r=.returned (.tuple #[.bool (s.head B).2.1,.int .i64 ((s.head B).2.2:Int)])∧AE w g B a (s.head B).1 w':=by
 have HA:=hid (Cd w h)
 have HN:=hid (CW w h hB)
 have hsm:=Rs.ET (B:=B) (s:=s)
 unfold Rs.head
 generalize s.num B=N at*
 obtain⟨s1,x⟩:=N
 dsimp only at*
 clear h
 by_cases hk:s1.k=0
 ·rw[Ag hk]
  by_cases h2:x%2=1
  ·have d2:(((x:Int)%2)==1)=true:=by rw[beq_iff_eq];omega
   rw[Ag h2]
   by_cases hl:1048572<x/2
   ·have d3:decide ((1048572:Int)<(x:Int)/2)=true:=Ad zC
    rw[Ag hl]
    have dk:decide (s1.k=0)=true:=Ad hk
    clear hk h2 hl
    go_enter Tryz.func329,Tryz.ntmps329
    go_wp2_with fail
    refine HA.out.mono ?_
    rintro r w' ⟨rfl,rfl⟩
    go_wp2_with fail
    refine HN.out.mono ?_
    rintro r w1 ⟨rfl,hst⟩
    have HG:=hid (AK w1 hst.1)
    rw[dk] at HG
    have HST:=hid hst
    clear hst dk
    go_wp2_with fail
    refine HG.out.mono ?_
    rintro r w2 ⟨rfl,hb2⟩
    have HF:=hid (Bx w2 (HST.out.1.later hb2) 2 s.p zC)
    go_wp2_with fail
    refine HF.out.mono ?_
    rintro r w3 ⟨rfl,hst3⟩
    have HST3:=hid hst3
    clear hst3
    go_wp2
    go_ret2
    exact⟨rfl,AE.trans (HST.out.then hb2).2 HST3.out⟩
   ·have d3:decide ((1048572:Int)<(x:Int)/2)=false:=Ae zC
    rw[Ai hl]
    have dk:decide (s1.k=0)=true:=Ad hk
    clear hk h2
    go_enter Tryz.func329,Tryz.ntmps329
    go_wp2_with fail
    refine HA.out.mono ?_
    rintro r w' ⟨rfl,rfl⟩
    go_wp2_with fail
    refine HN.out.mono ?_
    rintro r w1 ⟨rfl,hst⟩
    have HG:=hid (AK w1 hst.1)
    rw[dk] at HG
    have HST:=hid hst
    clear hst dk
    go_wp2_with fail
    refine HG.out.mono ?_
    rintro r w2 ⟨rfl,hb2⟩
    go_wp2
    go_ret2
    exact⟨zM,HST.out.then hb2⟩
  ·have d2:(((x:Int)%2)==1)=false:=by rw[BL];omega
   rw[Ai h2]
   by_cases hl:1048575<x/2
   ·have d3:decide ((1048575:Int)<(x:Int)/2)=true:=Ad zC
    rw[Ag hl]
    have dk:decide (s1.k=0)=true:=Ad hk
    clear hk h2 hl
    go_enter Tryz.func329,Tryz.ntmps329
    go_wp2_with fail
    refine HA.out.mono ?_
    rintro r w' ⟨rfl,rfl⟩
    go_wp2_with fail
    refine HN.out.mono ?_
    rintro r w1 ⟨rfl,hst⟩
    have HG:=hid (AK w1 hst.1)
    rw[dk] at HG
    have HST:=hid hst
    clear hst dk
    go_wp2_with fail
    refine HG.out.mono ?_
    rintro r w2 ⟨rfl,hb2⟩
    have HF:=hid (Bx w2 (HST.out.1.later hb2) 2 s.p zC)
    go_wp2_with fail
    refine HF.out.mono ?_
    rintro r w3 ⟨rfl,hst3⟩
    have HST3:=hid hst3
    clear hst3
    go_wp2
    go_ret2
    exact⟨rfl,AE.trans (HST.out.then hb2).2 HST3.out⟩
   ·have d3:decide ((1048575:Int)<(x:Int)/2)=false:=Ae zC
    rw[Ai hl]
    have dk:decide (s1.k=0)=true:=Ad hk
    clear hk h2
    go_enter Tryz.func329,Tryz.ntmps329
    go_wp2_with fail
    refine HA.out.mono ?_
    rintro r w' ⟨rfl,rfl⟩
    go_wp2_with fail
    refine HN.out.mono ?_
    rintro r w1 ⟨rfl,hst⟩
    have HG:=hid (AK w1 hst.1)
    rw[dk] at HG
    have HST:=hid hst
    clear hst dk
    go_wp2_with fail
    refine HG.out.mono ?_
    rintro r w2 ⟨rfl,hb2⟩
    go_wp2
    go_ret2
    exact⟨zM,HST.out.then hb2⟩
 ·rw[Ai hk]
  have dk:decide (s1.k=0)=false:=Ae hk
  clear hk
  go_enter Tryz.func329,Tryz.ntmps329
  go_wp2_with fail
  refine HA.out.mono ?_
  rintro r w' ⟨rfl,rfl⟩
  go_wp2_with fail
  refine HN.out.mono ?_
  rintro r w1 ⟨rfl,hst⟩
  have HG:=hid (AK w1 hst.1)
  rw[dk] at HG
  have HST:=hid hst
  clear hst dk
  go_wp2_with fail
  refine HG.out.mono ?_
  rintro r w2 ⟨rfl,hb2⟩
  go_wp2
  go_ret2
  exact⟨rfl,HST.out.then hb2⟩
theorem PK(w:World){g:Nat}{B:List UInt8}{a:Option Addr}{s:Rs}(h:AS w g B a s)(hB:B.length≤1000000000000):Calls Tryz.prog 330 #[.pointer (some ⟨g,0,none⟩)] w fun r w'=>r=.returned (.int .i64 ((s.offset B).2:Int))∧AE w g B a (s.offset B).1 w':=by
 have HA:=hid (Cd w h)
 have HN:=hid (CW w h hB)
 have hsm:=Rs.ET (B:=B) (s:=s)
 unfold Rs.offset
 dsimp only
 generalize s.num B=N at*
 obtain⟨s1,x⟩:=N
 dsimp only at*
 clear h
 by_cases hl:65536≤x
 ·have d1:decide ((65536:Int)≤(x:Int))=true:=Ad zC
  have hnk:(s1.fail 10 s.p).k≠0:=by unfold Rs.fail;split<;>simp_all
  rw[Ag hl,Ai hnk]
  have dk:decide ((s1.fail 10 s.p).k=0)=false:=Ae hnk
  have HFF:=hid (fun (W:World) (h:AS W g B a s1)=>Bx W h 10 s.p zC)
  generalize s1.fail 10 s.p=s2 at*
  clear hl hnk
  go_enter Tryz.func330,Tryz.ntmps330
  go_wp2_with fail
  refine HA.out.mono ?_
  rintro r w' ⟨rfl,rfl⟩
  go_wp2_with fail
  refine HN.out.mono ?_
  rintro r w1 ⟨rfl,hst⟩
  have HF:=hid (HFF.out w1 hst.1)
  have HST:=hid hst
  clear hst
  go_wp2_with fail
  refine HF.out.mono ?_
  rintro r w2 ⟨rfl,hst2⟩
  have HG:=hid (AK w2 hst2.1)
  rw[dk] at HG
  have HST2:=hid hst2
  clear hst2 dk
  go_wp2_with fail
  refine HG.out.mono ?_
  rintro r w3 ⟨rfl,hb3⟩
  go_wp2
  go_ret
  exact⟨rfl,AE.trans HST.out.2 (HST2.out.then hb3)⟩
 ·have d1:decide ((65536:Int)≤(x:Int))=false:=Ae zC
  rw[Ai hl]
  by_cases hk:s1.k=0
  all_goals
   first | rw[Ag hk] | rw[Ai hk]
   first | have dk:decide (s1.k=0)=true:=Ad hk | have dk:decide (s1.k=0)=false:=Ae hk
   clear hk
   go_enter Tryz.func330,Tryz.ntmps330
   go_wp2_with fail
   refine HA.out.mono ?_
   rintro r w' ⟨rfl,rfl⟩
   go_wp2_with fail
   refine HN.out.mono ?_
   rintro r w1 ⟨rfl,hst⟩
   have HG:=hid (AK w1 hst.1)
   rw[dk] at HG
   have HST:=hid hst
   clear hst dk
   go_wp2_with fail
   refine HG.out.mono ?_
   rintro r w3 ⟨rfl,hb3⟩
   go_wp2
   go_ret
   exact⟨zAg,HST.out.then hb3⟩
def Rs.Ct(B:List UInt8)(s:Rs)(m:Int):Rs × List UInt8:=(s.int B m).1.take B ((s.int B m).2:Int)
theorem Pz(w:World){g:Nat}{B:List UInt8}{a:Option Addr}{s:Rs}(h:AS w g B a s)(hB:B.length≤1000000000000)(m:Int)(hm: -9223372036854775808≤m∧m≤9223372036854775807):Calls Tryz.prog 274 #[.pointer (some ⟨g,0,none⟩),.int .i64 m] w fun r w'=>∃v,r=.returned v∧Am.r (fun q=>w.heap.size≤q∧q<w'.heap.size) w' [v] (s.Ct B m).2∧AE w g B a (s.Ct B m).1 w':=by
 have HI:=hid (CE w h hB m hm)
 have hle:((s.int B m).2:Int)≤9223372036854775807:=by have:=Rs.E6 (B:=B) (s:=s) (m:=m);omega
 have hT:=hid (fun (W:World) (h:AS W g B a (s.int B m).1)=>KF W h ((s.int B m).2:Int) hle hB)
 unfold Rs.Ct
 generalize (s.int B m).1.take B ((s.int B m).2:Int)=T at*
 generalize s.int B m=N at*
 obtain⟨s1,x⟩:=N
 obtain⟨s2,D⟩:=T
 dsimp only at*
 clear h
 go_enter Tryz.func274,Tryz.ntmps274
 go_wp2_with fail
 refine HI.out.mono ?_
 rintro r w1 ⟨rfl,hst⟩
 have HST:=hid hst
 have hs1:=hst.size
 have HT:=hid (hT.out w1 hst.1)
 clear hst
 go_wp2_with fail
 refine HT.out.mono ?_
 rintro r w2 ⟨v,rfl,hr,hst2⟩
 obtain⟨a1,c1,hv1,hr2,_⟩:=AH hr
 simp only[Av,AI] at hv1
 subst hv1
 have HR:=hid hr2
 have HST2:=hid hst2
 clear hr hr2 hst2
 go_wp2
 go_ret
 exact⟨_,rfl,Am.mono HR.out fun q hq=>⟨zC,hq.2⟩,AE.trans HST.out.2 HST2.out⟩
def Gw(off:Nat):Nat→List UInt8→List UInt8
 | 0,out=>out
 | n+1,out=>Gw off n (out++[out.getD (out.length-off) 0])
theorem Kv(off:Nat):∀(n:Nat) (out:List UInt8),(Gw off n out).length=out.length+n
 | 0,out=>rfl
 | n+1,out=>by simp only[Gw,Kv off n];simp;omega
def CI(B:List UInt8)(bound:Int)(s:Rs)(out:List UInt8):Rs × List UInt8:=
 if bound-out.length<(s.head B).2.2 then ((s.head B).1.fail 11 s.p,out)
 else if (s.head B).2.1=false then (((s.head B).1.take B ((s.head B).2.2:Int)).1,out++((s.head B).1.take B ((s.head B).2.2:Int)).2)
 else
  if out.length<((s.head B).1.offset B).2 then (((s.head B).1.offset B).1.fail 10 (s.head B).1.p,out)
  else if ((s.head B).1.offset B).1.k=0 then (((s.head B).1.offset B).1,Gw ((s.head B).1.offset B).2 (s.head B).2.2 out) else (((s.head B).1.offset B).1,out)
def exF(B:List UInt8)(bound:Int):Nat→Rs→List UInt8→Rs × List UInt8
 | 0,s,out=>(s,out)
 | f+1,s,out=>if s.p<B.length∧s.k=0 then exF B bound f (CI B bound s out).1 (CI B bound s out).2 else (s,out)
def exB(B:List UInt8)(bound:Int):List UInt8 × Int × Int:=
 if (exF B bound B.length ⟨0,0,0⟩ []).1.k=0 then ((exF B bound B.length ⟨0,0,0⟩ []).2,0,0) else ([],(exF B bound B.length ⟨0,0,0⟩ []).1.k,(exF B bound B.length ⟨0,0,0⟩ []).1.f)
theorem Rs.BI{s:Rs}{c at_:Int}(hc:c≠0):(s.fail c at_).k≠0:=by
 unfold Rs.fail;split
 ·exact hc
 ·assumption
theorem Rs.NL{s:Rs}{c at_:Int}:(s.fail c at_).p=s.p:=by unfold Rs.fail;split<;>rfl
theorem Rs.Ff{s:Rs}(h:(s.num B).1.k=0):s.p<(s.num B).1.p∧s.k=0:=by
 unfold Rs.num at*
 split
 ·rename_i h0
  rw[Ag h0] at h
  have:=(H4 (B.drop s.p) 0 0).2.2.2.2 ZR
  dsimp only;omega
 ·rename_i h0;rw[Ai h0] at h;exact absurd h h0
theorem Rs.LD{s:Rs}(h:(s.head B).1.k=0):s.p<(s.head B).1.p∧s.k=0∧(s.num B).1.k=0∧1≤(s.head B).2.2∧(s.head B).2.2≤1048576:=by
 unfold Rs.head at*
 by_cases h0:(s.num B).1.k=0
 ·have hm:=Rs.Ff h0
  rw[Ag h0] at h ⊢
  by_cases h1:(s.num B).2%2=1
  ·rw[Ag h1] at h ⊢
   by_cases h2:1048572<(s.num B).2/2
   ·rw[Ag h2] at h;exact absurd h (Rs.BI zC)
   ·rw[Ai h2];exact⟨hm.1,hm.2,h0,zH,zH⟩
  ·rw[Ai h1] at h ⊢
   by_cases h2:1048575<(s.num B).2/2
   ·rw[Ag h2] at h;exact absurd h (Rs.BI zC)
   ·rw[Ai h2];exact⟨hm.1,hm.2,h0,zH,zH⟩
 ·rw[Ai h0] at h;exact absurd h h0
theorem Rs.W9{s:Rs}(h:(s.head B).1.k≠0):(s.head B).2.1=false∧(s.head B).2.2=0:=by
 unfold Rs.head at*
 by_cases h0:(s.num B).1.k=0
 ·rw[Ag h0] at h ⊢
  by_cases h1:(s.num B).2%2=1
  ·rw[Ag h1] at h ⊢
   by_cases h2:1048572<(s.num B).2/2
   ·rw[Ag h2];exact⟨rfl,rfl⟩
   ·rw[Ai h2] at h;exact absurd h0 h
  ·rw[Ai h1] at h ⊢
   by_cases h2:1048575<(s.num B).2/2
   ·rw[Ag h2];exact⟨rfl,rfl⟩
   ·rw[Ai h2] at h;exact absurd h0 h
 ·rw[Ai h0];exact⟨rfl,rfl⟩
theorem Rs.EL{s:Rs}{n:Int}(h:(s.take B n).1.k=0):s.p≤(s.take B n).1.p∧s.k=0∧(s.take B n).2.length=n.toNat:=by
 unfold Rs.take at*
 cases hk:(s.skip B.length n).1
 ·exact absurd h (Rs.Io hk).1
 ·have:=Rs.Fv hk
  rw[this.2.2.2]
  refine⟨zH,this.1,?_⟩
  simp;omega
theorem Rs.KB{s:Rs}{n:Int}(h:(s.take B n).1.k≠0):(s.take B n).2=[]:=by
 unfold Rs.take at*
 cases hk:(s.skip B.length n).1
 ·simp
 ·have:=Rs.Fv hk
  rw[this.2.2.2] at h;exact absurd rfl h
theorem Rs.L8{s:Rs}(h:(s.offset B).1.k=0):s.p<(s.offset B).1.p∧s.k=0∧(s.num B).1.k=0∧(s.offset B).2=(s.num B).2+1∧(s.num B).2<65536:=by
 unfold Rs.offset at*
 dsimp only at*
 by_cases h1:65536≤(s.num B).2
 ·rw[Ag h1] at h;exact absurd h (Rs.BI zC)
 ·rw[Ai h1] at h ⊢
  have:=Rs.Ff h
  exact⟨this.1,this.2,h,by rw[Ag h],zC⟩
theorem Rs.Kg{s:Rs}(h:s.k≠0):s.num B=(s,0):=by unfold Rs.num;rw[Ai h]
theorem Rs.LZ{s:Rs}{n:Int}(h:s.k≠0):s.skip L n=(false,s):=by unfold Rs.skip;rw[Ai h]
theorem Rs.Bt{s:Rs}{c a:Int}(h:s.k≠0):s.fail c a=s:=by unfold Rs.fail;rw[Ai h]
theorem Rs.DX{s:Rs}{n:Int}(h:s.k≠0):s.take B n=(s,[]):=by unfold Rs.take;rw[Rs.LZ h];simp
theorem LJ{s:Rs}{out:List UInt8}(h:s.ok B.length):(CI B bound s out).1.ok B.length:=by
 unfold CI
 split
 ·exact Rs.Ck (Rs.ID h) zC
 ·split
  ·exact Rs.Gf (Rs.ID h) _
  ·split
   ·exact Rs.Ck (Rs.Lt (Rs.ID h)) zC
   ·split
    ·exact Rs.Lt (Rs.ID h)
    ·exact Rs.Lt (Rs.ID h)
theorem Hl{s:Rs}{out:List UInt8}(h:(CI B bound s out).1.k=0):s.p<(CI B bound s out).1.p∧((CI B bound s out).2.length:Int)≤bound:=by
 unfold CI at*
 by_cases h1:bound-out.length<(s.head B).2.2
 ·rw[Ag h1] at h;exact absurd h (Rs.BI zC)
 ·rw[Ai h1] at h ⊢
  by_cases h2:(s.head B).2.1=false
  ·rw[Ag h2] at h ⊢
   have ht:=Rs.EL h
   have hh:=Rs.LD ht.2.1
   refine⟨zH,?_⟩
   simp only[Al,ht.2.2]
   omega
  ·rw[Ai h2] at h ⊢
   by_cases h3:out.length<((s.head B).1.offset B).2
   ·rw[Ag h3] at h;exact absurd h (Rs.BI zC)
   ·rw[Ai h3] at h ⊢
    by_cases h4:((s.head B).1.offset B).1.k=0
    ·rw[Ag h4]
     have ho:=Rs.L8 h4
     have hh:=Rs.LD ho.2.1
     refine⟨zH,?_⟩
     simp only[Kv];omega
    ·rw[Ai h4] at h;exact absurd h h4
theorem TL{s:Rs}{out:List UInt8}(h:(CI B bound s out).1.k≠0):(CI B bound s out).2=out:=by
 unfold CI at*
 split
 ·rfl
 ·rename_i h1
  rw[Ai h1] at h
  split
  ·rename_i h2
   rw[Ag h2] at h
   rw[Rs.KB h];simp
  ·rename_i h2
   rw[Ai h2] at h
   split
   ·rfl
   ·rename_i h3
    rw[Ai h3] at h
    split
    ·rename_i h4
     rw[Ag h4] at h;exact absurd h4 h
    ·rfl
theorem Xm:∀(f:Nat) (s:Rs) (out:List UInt8),s.ok B.length→B.length≤s.p+f→s.p<B.length→s.k=0→exF B bound f s out=exF B bound (f-1) (CI B bound s out).1 (CI B bound s out).2
 | 0,s,out,_,h1,h2,_=>by omega
 | f+1,s,out,_,_,h2,h3=>by simp only[exF];rw[Ag ⟨h2,h3⟩];rfl
theorem GY:∀(f:Nat) (s:Rs) (out:List UInt8),¬(s.p<B.length∧s.k=0)→exF B bound f s out=(s,out)
 | 0,s,out,_=>rfl
 | f+1,s,out,h=>by simp only[exF];rw[Ai h]
theorem Uv:∀(f g:Nat) (s:Rs) (out:List UInt8),s.ok B.length→B.length≤s.p+f→B.length≤s.p+g→exF B bound f s out=exF B bound g s out
 | 0,g,s,out,h,h1,h2=>by rw[GY g s out (by have:=h.le;omega)];rfl
 | f+1,0,s,out,h,h1,h2=>by rw[GY (f+1) s out (by have:=h.le;omega)];rfl
 | f+1,g+1,s,out,h,h1,h2=>by
  simp only[exF]
  by_cases hc:s.p<B.length∧s.k=0
  ·rw[Ag hc,Ag hc]
   by_cases hk:(CI B bound s out).1.k=0
   ·have:=(Hl hk).1
    exact Uv f g _ _ (LJ h) zC zC
   ·rw[GY f _ _ (fun e=>hk e.2),GY g _ _ (fun e=>hk e.2)]
  ·rw[Ai hc,Ai hc]
def exR(B:List UInt8)(bound:Int)(s:Rs)(out:List UInt8):Rs × List UInt8:=exF B bound (B.length-s.p) s out
theorem TM{s:Rs}{out:List UInt8}(h:s.ok B.length)(h1:s.p<B.length)(h2:s.k=0):exR B bound s out=exR B bound (CI B bound s out).1 (CI B bound s out).2:=by
 unfold exR
 rw[Xm _ s out h zC h1 h2]
 by_cases hk:(CI B bound s out).1.k=0
 ·have:=(Hl hk).1
  exact Uv _ _ _ _ (LJ h) zC zC
 ·rw[GY _ _ _ (fun e=>hk e.2),GY _ _ _ (fun e=>hk e.2)]
theorem La{s:Rs}{out:List UInt8}(h:¬(s.p<B.length∧s.k=0)):exR B bound s out=(s,out):=GY _ _ _ h
theorem Xo(B:List UInt8)(bound:Int):exB B bound=if (exR B bound ⟨0,0,0⟩ []).1.k=0 then ((exR B bound ⟨0,0,0⟩ []).2,0,0) else ([],(exR B bound ⟨0,0,0⟩ []).1.k,(exR B bound ⟨0,0,0⟩ []).1.f):=rfl
theorem NZ(x:UInt8):∀u∈[Value.int .u8 (x.toNat:Int)],u.oneCell'=true:=by
 intro u hu;simp at hu;subst hu;rfl
theorem EG(l:List UInt8)(x:UInt8):byteCells l++[Value.int .u8 (x.toNat:Int)]=byteCells (l++[x]):=ZS
theorem Qw(w:World)(out:List UInt8)(hown:w.ownsRow base 5 1 (.slice a out.length c) out.length (byteCells out))(hbase:base≤w.heap.size)(off n:Nat)(h1:1≤off)(h2:off≤out.length)(hn:out.length+n≤1000000000000):
  Calls Tryz.prog 331 #[.slice a out.length c,.int .i64 (off:Int),.int .i64 (n:Int)] w fun r w'=>∃a' c',r=.returned (.slice a' (out.length+n) c')∧w'.ownsRow base 5 1 (.slice a' (out.length+n) c') (out.length+n) (byteCells (Gw off n out))∧Below base w w':=by
 obtain⟨i0,hi,hz0,hz1,hz2⟩:=A5 FL
 have HO:=hid hown
 clear hown
 go_enter Tryz.func331,Tryz.ntmps331
 go_wp2_with fail
 go_loopw [0,8] (fun o i wr=>∃(k:Nat) (J:List UInt8) (aJ:Option Addr) (cJ:Nat),k≤n∧i=.int .i64 k∧o=.slice aJ J.length cJ∧wr.ownsRow base 5 1 (.slice aJ J.length cJ) J.length (byteCells J)∧Hid (Gw off n out=Gw off (n-k) J)∧Hid (J.length=out.length+k)∧Below base w wr∧base≤wr.heap.size) (fun _ i _=>n-(intOf i).toNat)
 case atStart=>exact ⟨0,out,a,c,Ar _,rfl,rfl,HO.out,hid rfl,hid rfl,Below.refl _ _,hbase⟩
 case round=>
  obtain⟨k,J,aJ,cJ,hk,rfl,rfl,ho,hJ,hln,hb,hbs⟩:=hrel
  have HJO:=hid ho
  rcases Bl k n with hlt | hge
  ·have d1:decide ((k:Int)<(n:Int))=true:=Ad zC
   have d1':decide (k<n)=true:=Ad hlt
   have hml:off≤J.length:=by have:=hln.out;omega
   have hJm:J.length+1≤1000000000000:=by have:=hln.out;omega
   have hst:Hid (Gw off (n-k) J=Gw off (n-(k+1)) (J++[J.getD (J.length-off) 0])):=hid (by rw[show n-k=(n-(k+1))+1 by omega];rfl)
   have hgd:J.getD (J.length-off) 0=J[J.length-off]'zC:=by rw[Ih,AF zC];rfl
   rw[hgd] at hst
   obtain⟨gb,ob,hA,hgb,hc⟩:=Dg (F7 rfl ho) (i:=J.length-off) zC
   subst hA
   obtain⟨m,hm⟩:∃m,m=J.length-off:=⟨_,rfl⟩
   have e1:(J.length:Int)-(off:Int)=(m:Int):=zC
   generalize J[J.length-off]'zC=x at*
   rw[←hm] at hc
   have i1:(m:Int)<(J.length:Int):=zC
   have i2:(0:Int)≤(m:Int):=zC
   clear ho hgd hm
   go_wp2_with (at_builtin;go_loud (refine AB rfl _ _ _ rfl base 5 i0 (.int .u8 0) 1 1 AJ hi hz0 hz1 hz2 rfl zL (.slice (some ⟨gb,ob,none⟩) J.length cJ) J.length (byteCells J) rfl (Bz HJO.out zB) (some ⟨wr.heap.size,0,none⟩) 1 1 [.int .u8 (x.toNat:Int)] rfl (BU wr 5 _ rfl rfl rfl) (NZ x) zO zC zI ?_;intro v' w3 hown3 hgrow3 hat3;obtain⟨a3,c3,rfl⟩:=AV hown3;have HO3:=hid hown3;have HG3:=hid hgrow3;clear hown3 hgrow3 hat3))
   have ho3:=HO3.out
   rw[EG,show J.length+1=(J++[x]).length by simp] at ho3
   have hb3:Below base wr w3:=(Below.grown (Below.refl _ _) HG3.out zI (fun g e=>(HJO.out.lt g e).1)) |>(fun h=>(Aw (Below.refl _ _) _ |>.mono hbs).trans h)
   have HO4:=hid ho3
   have hs3:=hb3.size
   clear ho3 hc
   go_roundw
   case rel=>exact ⟨k+1,J++[x],a3,c3,zC,zT,zM,HO4.out,hid (hJ.out.trans hst.out),hid (by simp;have:=hln.out;omega),hb.trans hb3,zC⟩
   case measure=>simp [intOf];omega
  ·obtain rfl:k=n:=by omega
   have d1:decide ((k:Int)<(k:Int))=false:=Ae zC
   have hfin:Hid (Gw off k out=J):=hid (by rw[hJ.out,Nat.sub_self];rfl)
   clear ho
   go_wp2
   go_ret
   have hl:J.length=out.length+k:=hln.out
   rw[hfin.out,←hl]
   exact⟨_,_,rfl,HJO.out,hb⟩
end Go.Proofs.YtfddhafbhceoaaaGreat
