/- Mini: Needed by pushItems_walk, part 3: texts put together by shake.py; no condition. -/
import Derived.Test.YtfddhafbhceoaaaGreatWE1
import Derived.Test.YtfddhafbhceoaaaGreatWE2
import Derived.Deep.RegionHeld3
import Derived.IntWalk
import Derived.ScopeJumps
import Derived.WalkMore
set_option linter.unusedVariables false
set_option linter.unusedSimpArgs false
set_option maxRecDepth 100000
set_option maxHeartbeats 6400000
namespace Go.Bs
theorem zCh{p:Prop}(h:p:=by rw [← hDm]; exact Ah.mono hsub fun q hq => hq.1):p:=h
theorem zB8{p:Prop}(h:p:=by have := HBP.out HK.out; omega):p:=h
theorem zB7{p:Prop}(h:p:=by have := Rs.JH (B := B) (s := s) (m := (n : Int)); omega):p:=h
theorem zBz{p:Prop}(h:p:=by first | trivial | rfl):p:=h
theorem zBs{p:Prop}(h:p:=by simp [hk]):p:=h
theorem zBo{p:Prop}(h:p:=by { have e' : some w.heap.size = some g := e; injection e' with e'; omega }):p:=h
theorem zA7{p:Prop}(h:p:=by first | rfl | simp):p:=h
theorem zA1{p:Prop}(h:p:=by simp [World.setCell]; exact hq.2):p:=h
theorem zA0{p:Prop}(h:p:=by rw [List.drop_eq_nil_of_le (by simp; omega)]; rfl):p:=h
theorem zAk{p:Prop}(h:p:=by rw [Acj (by rw [hn1.out]; omega), HTK.out m (by omega)]):p:=h
theorem zAi{p:Prop}(h:p:=by simp [results, Tryz.results137, go_sem, y0, y1, y2, y3, l1]):p:=h
theorem ZD{p:Prop}(h:p:=by simp [results, Tryz.results167, go_sem, y0, y1, l1]):p:=h
theorem zX{p:Prop}(h:p:=by rw [HDM.out]; exact HSB.out _ (by (repeat (first | exact Below.refl _ _ | assumption | (refine AH ?_ _) | (refine Below.setCell ?_ (by first | omega | (simp; done) | (simp; omega)) _) | (refine Below.drew ?_) | (refine below_drewN ?_ _) | (refine Af (by assumption) ?_))))):p:=h
theorem zS{p:Prop}(h:p:=by rfl):p:=h
theorem zE{p:Prop}(h:p:=by decide +kernel):p:=h
theorem zA{p:Prop}(h:p:=by (repeat (first | with_reducible exact Below.refl _ _ | with_reducible assumption | (with_reducible refine AH ?_ _) | (with_reducible refine Below.setCell ?_ (by first | omega | (simp; done) | (simp; omega)) _) | (with_reducible refine Below.drew ?_) | (with_reducible refine below_drewN ?_ _) | (refine Af (by with_reducible assumption) ?_)))):p:=h
theorem Aa:type_of% @List.setIfInBounds_toArray:=@List.setIfInBounds_toArray
theorem Ab:type_of% @List.set_cons_zero:=@List.set_cons_zero
theorem Ac:type_of% @List.set_cons_succ:=@List.set_cons_succ
theorem Ap:type_of% @wpAnyH_take:=@wpAnyH_take
theorem AK:type_of% @AllReadyH.cons:=@AllReadyH.cons
theorem AU:type_of% @wpAnyH_ready:=@wpAnyH_ready
theorem AW:type_of% @List.take_succ_eq_append_getElem:=@List.take_succ_eq_append_getElem
theorem BW:type_of% @beq_eq_false_iff_ne:=@beq_eq_false_iff_ne
theorem CS:type_of% @wpAnyH_done:=@wpAnyH_done
theorem Ff:type_of% @Nat.pow_succ:=@Nat.pow_succ
theorem F6:type_of% @Nat.pow_le_pow_right:=@Nat.pow_le_pow_right
theorem Jl:type_of% @Nat.mul_comm:=@Nat.mul_comm
theorem Jn:type_of% @IntKind.wrap_u64:=@IntKind.wrap_u64
theorem M9:type_of% @List.length_take:=@List.length_take
end Go.Bs
namespace Go.Proofs.YtfddhafbhceoaaaGreat
open Go.RowKit Go.Bs Go.Maps
variable{B b l:List UInt8}{L c g hi i lo n off sz:Nat}{S:Nat → Prop}{a:Option Addr}{t:TypeId}{v v0 v1 v2 v3:Value}{w:World}
def IC:Rp Tok:=rBy (fun t=>(t.lit,t.off,t.len)) (Eb Ah (Eb (GZ .i64) (GZ .i64)))
def MD:Rp (List Tok):=rSl 3 IC
theorem JL{n:Int}(h: -9223372036854775808≤n∧n≤9223372036854775807):(Lit.int .i64 n).wf=true:=by
 simp[Lit.wf,IntKind.min,IntKind.max,IntKind.signed,IntKind.bits];omega
theorem Qp{x:Tok}(h:Ah.r S w [v] x.lit)(h1: -9223372036854775808≤x.off∧x.off≤9223372036854775807)(h2: -9223372036854775808≤x.len∧x.len≤9223372036854775807):IC.r S w [v,.int .i64 x.off,.int .i64 x.len] x:=
 ⟨[_],[_,_],rfl,h,[_],[_],rfl,⟨rfl,JL h1⟩,rfl,JL h2⟩
theorem QR:(Tryz.prog.info? 304).map (fun i=>(i.zero,i.size,i.bytes))=some (some (.agg #[.slice none 0 0,.int .i64 0,.int .i64 0]),3,40):=zI
theorem Qx{α:Type}{A:Rp α}{xs:List α}{b:Nat}{k:Nat}(h:(rSl sz A).r S w [.slice (some ⟨b,off,none⟩) n c] xs)(hk:k≤xs.length):(rSl sz A).r S w [.slice (some ⟨b,off+k*sz,none⟩) (n-k) (c-k)] (xs.drop k):=by
 obtain⟨a',c',e,h1,h2,h3⟩:=h;simp at e;obtain⟨rfl,rfl,rfl⟩:=e;refine Bt (a:=some ⟨b,off+k*sz,none⟩) (c:=c-k) zN zH zD ?_;rcases h3 with rfl | ⟨b',off',e',hS,hr⟩
 ·exact .inl zN
 ·simp at e'
  obtain⟨rfl,rfl⟩:=e';refine .inr ⟨b,off+k*sz,rfl,hS,fun i x hi=> ?_⟩;rw[List.getElem?_drop] at hi;obtain⟨cs,h4,h5,h6⟩:=hr (k+i) x hi;refine⟨cs,h4,fun j v hj=> ?_,h6⟩;have:=h5 j v hj;rw[show off+k*sz+i*sz+j=off+(k+i)*sz+j by rw[Nat.add_mul];omega];exact this
def Rf(w:World)(bo lo:Nat)(F:Nat→Prop)(v:Value)(L':List Tok)(r:Ending)(w':World):Prop:=r=.returned (.tuple #[])∧
 ∃av' cv' cells',Blk w' bo 337 #[.slice av' L'.length cv']∧AY (fun q=>F q∨(w.heap.size≤q∧q<w'.heap.size)) IC lo 304 3 w' (.slice av' L'.length cv') L' cells'∧Tch (fun q=>q=bo∨v.ownBlock=some q) w w'∧((Value.slice av' L'.length cv').ownBlock=v.ownBlock∨∃q,(Value.slice av' L'.length cv').ownBlock=some q∧w.heap.size≤q)
theorem Pw(w:World){bf bo bb lo:Nat}{F:Nat→Prop}{b:List UInt8}{a:Option Addr}{c i to:Nat}{av:Option Addr}{cv:Nat}{L:List Tok}{cells:List (List Value)}
 (hf:Blk w bf 3 #[.int .i64 (i:Int)]) (ho:Blk w bo 337 #[.slice av L.length cv]) (hb:Blk w bb 22 #[.slice a b.length c]) (hl:Ah.r (fun q=>q<w.heap.size) w [.slice a b.length c] b)
 (hown:AY F IC lo 304 3 w (.slice av L.length cv) L cells) (hF:∀q,F q→q<w.heap.size) (hFo:¬F bo) (hoo:(Value.slice av L.length cv).ownBlock≠some bo)
 (hne:bo≠bf∧bo≠bb∧(Value.slice av L.length cv).ownBlock≠some bf∧(Value.slice av L.length cv).ownBlock≠some bb) (hto:to≤b.length) (hlen:b.length≤1048576) (hL:L.length≤2097152) (hlo:lo≤w.heap.size):
  Calls Tryz.prog 372 #[.int .i64 (to:Int),.pointer (some ⟨bf,0,none⟩),.pointer (some ⟨bo,0,none⟩),.pointer (some ⟨bb,0,none⟩)] w (Rf w bo lo F (.slice av L.length cv) (L++EV b i to)):=by
 have f0:w.cell? ⟨bf,0,none⟩=some (.int .i64 (i:Int)):=hf.cell 0;by_cases hit:i<to
 ·have hlit:EV b i to=[⟨(b.drop i).take (to-i),0,0⟩]:=by unfold EV;rw[Ai hit]
  obtain⟨ga,oa,hA,hga,_⟩:=Cs hl (i:=i) zD;subst hA;obtain⟨_,_,hlc,hcm⟩:=AT hl;obtain⟨i0,hi0,hz0,hz1,hz2⟩:=A3 DH;obtain⟨j0,hj0,hy0,hy1,hy2⟩:=A3 QR;have o0:w.cell? ⟨bo,0,none⟩=some (.slice av L.length cv):=ho.cell 0;have b0:w.cell? ⟨bb,0,none⟩=some (.slice (some ⟨ga,oa,none⟩) b.length c):=hb.cell 0;have of:=ho.free 0;have lf:=hf.lt;have lo':=ho.lt;have lb:=hb.lt;have hsub:Hid (Ah.r (fun q=>q<w.heap.size) w [.slice (some ⟨ga,oa+i,none⟩) (to-i) (c-i)] ((b.drop i).take (to-i))):=hid (by
   have h1:=Qx hl (k:=i) zD;rw[Fi] at h1;exact Ic h1 zH)
  have hsl':((b.drop i).take (to-i)).length=to-i:=zH;generalize hD:(b.drop i).take (to-i)=D at*;clear hD;have HLIT:=hid hlit;have HSL:=hid hsl';have hds:Hid (to-i=D.length):=hid hsl'.symm;have HS:=hid (fun (W:World) (hW:Below w.heap.size w W)=>A8 (l:=D) (lift (w:=w) (A:=Ah) (by have:=hsub.out;rw[hds.out] at this;exact this) hW));have HONE:=hid (AI D);have hsl:∀w':World,(Instr.slice 22 (.slice (some ⟨ga,oa,none⟩) b.length c) (some (.int .i64 (i:Int))) (some (.int .i64 (to:Int))) none).run Tryz.prog w'=.ok (.slice (some ⟨ga,oa+i,none⟩) D.length (c-i)) w':=fun w'=>by
   rw[←hds.out];have g1:(0:Int)≤(i:Int):=zD;have g2:(i:Int)≤(to:Int):=zD;have g3:(to:Int)≤(c:Int):=zD;have g4:¬c=i:=zD;go_simp
  have HF:=hid hF;have HFO:=hid hFo;have HOO:=hid hoo;have HOWN:=hid hown;have HHO:=hid ho;have lenD:D.length≤1048576:=zD;have g1:(0:Int)≤(i:Int):=zD;have g2:(i:Int)≤(to:Int):=zD;have g3:(to:Int)≤(c:Int):=zD;have g4:(to:Int)≤(b.length:Int):=zD;have d1:decide ((i:Int)<(to:Int))=true:=zH;have d1':decide (i<to)=true:=zH;obtain⟨ne1,ne2,ne3,ne4⟩:=hne;clear hF hFo hoo hown ho hb hl hf hlit hsl' hsub hds;go_enter Tryz.func372,Tryz.ntmps372;go_wp2_with fail;refine C9 (fun w'=>w'.cell? ⟨bf,0,none⟩=some (.int .i64 (i:Int))∧w'.cell? ⟨bo,0,none⟩=some (.slice av L.length cv)∧w'.cell? ⟨bb,0,none⟩=some (.slice (some ⟨ga,oa,none⟩) b.length c)) _ zI rfl zI ⟨f0,o0,b0⟩ (fun hHeld=> ?_);simp only[Cy,GU];refine Ap (i:=0) (oi:=_) (v:=?_) rfl zE zE zE (fun _ _ _ h=>h) (Or.inl ⟨zS,?_⟩) zL ?_;rotate_left
  ·(intro w hSw;(try dsimp only at hSw);go_simp<;>with_reducible rfl)
  (try simp only[Act.put,Aa,Ab,Ac])
  refine Ap (i:=2) (oi:=_) (v:=?_) rfl zE zE zE (fun _ _ _ h=>h) (Or.inl ⟨zS,?_⟩) zL ?_;rotate_left
  ·(intro w hSw;(try dsimp only at hSw);go_simp<;>with_reducible rfl)
  (try simp only[Act.put,Aa,Ab,Ac])
  refine Ap (i:=3) (oi:=_) (v:=?_) rfl zE zE zE (fun _ _ _ h=>h) (Or.inl ⟨zS,?_⟩) zL ?_;rotate_left
  ·(intro w hSw;(try dsimp only at hSw);go_simp<;>with_reducible rfl)
  (try simp only[Act.put,Aa,Ab,Ac])
  refine Ap (i:=4) (oi:=_) (v:=?_) rfl zE zE zE (fun _ _ _ h=>h) (Or.inl ⟨zS,?_⟩) zL ?_;rotate_left
  ·(intro w hSw;(try dsimp only at hSw);go_simp<;>with_reducible rfl)
  (try simp only[Act.put,Aa,Ab,Ac])
  refine Ap (i:=5) (oi:=_) (v:=?_) rfl zE zE zE (fun _ _ _ h=>h) (Or.inl ⟨zS,?_⟩) zL ?_;rotate_left
  ·(intro w hSw;(try dsimp only at hSw);go_simp<;>with_reducible rfl)
  (try simp only[Act.put,Aa,Ab,Ac])
  refine AU (rs:=[1]) zE zN ?_;refine AK (o:=_) rfl (fun K hK=> ?_) AllReadyH.nil;go_simp
  refine hK.out _ _ ?_ (fun hHeld=> ?_)
  ·((try dsimp only);refine⟨?_,?_,?_⟩<;>(first | assumption | (go_keep;done)))
  clear hK K
  (try simp only[Act.put,Aa,Ab,Ac])
  refine AU (rs:=[6]) zE zN ?_;refine AK (o:=_) rfl (fun K hK=> ?_) AllReadyH.nil
  (refine BG zS _ _ _ zS w.heap.size 5 i0 (.int .u8 0) 1 1 Au hi0 hz0 hz1 hz2 rfl zO _ 0 [] zS (Gk _ zN zS) (some ⟨ga,oa+i,none⟩) D.length (c-i) (byteCells D) zS (HS.out _ zB) HONE.out zK zD zN ?_;intro a5 c5 w5 hown5 hgrow5 hat5;rw[A1] at hown5;have k5:Below w.heap.size w w5:=Below.grown zB hgrow5 zN (fun g e=>zBo);have e0:=(k5.cell (p:=⟨bf,0,none⟩) lf).trans f0;have e1:=(k5.cell (p:=⟨bo,0,none⟩) lo').trans o0;have e2:=(k5.cell (p:=⟨bb,0,none⟩) lb).trans b0;have HK5:=hid k5;have HG5:=hid hgrow5;have HO5:=hid hown5;have HA5:=hid hat5;have hs5:w.heap.size+1≤w5.heap.size:=(by have:=hgrow5.size;simpa using this);clear hown5 hgrow5 hat5 k5)
  refine hK.out _ _ ?_ (fun hHeld=> ?_)
  ·((try dsimp only);refine⟨?_,?_,?_⟩<;>(first | assumption | (go_keep;done)))
  clear hK K
  (try simp only[Act.put,Aa,Ab,Ac])
  refine Ap (i:=7) (oi:=_) (v:=?_) rfl zE zE zE (fun _ _ _ h=>h) (Or.inl ⟨zS,?_⟩) zL ?_;rotate_left
  ·(intro w hSw;(try dsimp only at hSw);go_simp<;>with_reducible rfl)
  (try simp only[Act.put,Aa,Ab,Ac])
  refine AU (rs:=[8]) zE zN ?_;refine AK (o:=_) rfl (fun K hK=> ?_) AllReadyH.nil;go_simp
  refine hK.out _ _ ?_ (fun hHeld=> ?_)
  ·((try dsimp only);refine⟨?_,?_,?_⟩<;>(first | assumption | (go_keep;done)))
  clear hK K
  (try simp only[Act.put,Aa,Ab,Ac])
  refine AU (rs:=[9]) zE zN ?_;refine AK (o:=_) rfl (fun K hK=> ?_) AllReadyH.nil
  (refine BG zS _ _ _ zS lo 304 j0 (.agg #[.slice none 0 0,.int .i64 0,.int .i64 0]) 3 40 Tryz.underlying337 hj0 hy0 hy1 hy2 rfl zO (.slice av L.length cv) L.length cells.flatten zS (AF (AF HOWN.out.1 HK5.out) zB) (some ⟨w5.heap.size,0,none⟩) 1 1 [.slice a5 D.length c5,.int .i64 0,.int .i64 0] zS (By w5 304 _ zS zS rfl) (by intro u hu;simp at hu;rcases hu with rfl | rfl | rfl<;>rfl) zK zD zH ?_;intro a8 c8 w8 hown8 hgrow8 hat8;have G:=fun b' (hb:b'<w.heap.size) (hne:(Value.slice av L.length cv).ownBlock≠some b')=>(hgrow8.block b' zH (fun e=>hne e.symm)).trans ((Bx w5 _ b' zD).trans (HK5.out.block b' hb));have m1:=(Bn (a:=⟨bo,0,none⟩) (G bo lo' HOO.out)).trans o0;have m2:=(CT (a:=⟨bo,0,none⟩) (G bo lo' HOO.out)).trans of;have m4:=(Bn (a:=⟨bf,0,none⟩) (G bf lf ne3)).trans f0;have m5:=(Bn (a:=⟨bb,0,none⟩) (G bb lb ne4)).trans b0;have m3:bo<w8.heap.size:=Aj lo' (A4 zH hgrow8.size);have HG8:=hid hgrow8;have HO8:=hid hown8;have HA8:=hid hat8;have HGG:=hid G;clear hgrow8 hown8 hat8 G)
  refine hK.out _ _ ?_ (fun hHeld=> ?_)
  ·((try dsimp only);refine⟨?_,?_,?_⟩<;>(first | assumption | (go_keep;done)))
  clear hK K
  (try simp only[Act.put,Aa,Ab,Ac])
  refine Ap (i:=10) (oi:=_) (v:=?_) rfl zE zE zE (fun _ _ _ h=>h) (Or.inl ⟨zS,?_⟩) zL ?_;rotate_left
  ·(intro w hSw;(try dsimp only at hSw);go_simp<;>with_reducible rfl)
  (try simp only[Act.put,Aa,Ab,Ac])
  refine CS zI ?_ _;show wpList _ _ _ _ _ _
  have hA:=Cg rfl HO5.out;have keepA:∀q,q<w5.heap.size→(w5.alloc (.cells #[.slice a5 D.length c5,.int .i64 0,.int .i64 0] 304)).heap[q]? =w5.heap[q]? :=fun q hq=>Bx w5 _ q hq;have OF2:=(HOWN.out.keep (w':=w5.alloc (.cells #[.slice a5 D.length c5,.int .i64 0,.int .i64 0] 304)) (fun q hq=>(keepA q (by have:=HF.out q hq;omega)).trans (HK5.out.block q (HF.out q hq))) (fun q hq=>by
   have h1:=(HOWN.out.1.lt q hq).2;exact (keepA q zD).trans (HK5.out.block q h1))).mono (F':=fun q=>F q∨(w.heap.size≤q∧q<w5.heap.size)) (fun q h=> .inl h)
  have hx:IC.r (fun q=>(F q∨(w.heap.size≤q∧q<w5.heap.size))∧(Value.slice av L.length cv).ownBlock≠some q) (w5.alloc (.cells #[.slice a5 D.length c5,.int .i64 0,.int .i64 0] 304)) [.slice a5 D.length c5,.int .i64 0,.int .i64 0] ⟨D,0,0⟩:=
   Qp (x:=⟨D,0,0⟩) (Ah.mono (Ah.keep hA fun q hq=>keepA q hq.2) fun q hq=>⟨.inr hq,fun e=>by have:=(HOWN.out.1.lt q e).2;omega⟩) zN zN
  have OPU:=AY.push OF2 (fun q hq=>hq.elim (fun h=>by have:=HF.out q h;simp;omega) fun h=>zH) rfl hx HO8.out HG8.out HA8.out;have hs8:=HG8.out.size;have hoo':(Value.slice a8 (L.length+1) c8).ownBlock≠some bo:=fun e=>by
   rcases HA8.out with h | h
   ·rw[h] at e;exact HOO.out e
   ·rw[h] at e;simp at e;omega
  have hsz:(w8.setCell ⟨bo,0,none⟩ (.slice a8 (L.length+1) c8)).heap.size=w8.heap.size:=ZK;have OP9:=(OPU.keep (w':=w8.setCell ⟨bo,0,none⟩ (.slice a8 (L.length+1) c8)) (fun q hq=>AB _ _ _ _ (fun e=>by
   subst e;rcases hq with h | h
   ·exact HFO.out h
   ·omega)) (fun q hq=>AB _ _ _ _ (fun e=>hoo' (by rw[hq];exact GL some e)))).mono (F':=fun q=>F q∨(w.heap.size≤q∧q<(w8.setCell ⟨bo,0,none⟩ (.slice a8 (L.length+1) c8)).heap.size)) (fun q hq=>by
    rw[hsz];rcases hq with h | h
    ·exact .inl h
    ·simp at hs8;exact .inr ⟨h.1,zD⟩)
  have hB8:Blk w8 bo 337 #[.slice av L.length cv]:=(HGG.out bo lo' HOO.out).trans HHO.out;have htch:Tch (fun q=>q=bo∨(Value.slice av L.length cv).ownBlock=some q) w (w8.setCell ⟨bo,0,none⟩ (.slice a8 (L.length+1) c8)):=
   Tch.setCell ⟨HG8.out.os.trans HK5.out.os,HG8.out.tape.trans HK5.out.tape,HG8.out.output.trans HK5.out.output,by simp at hs8;omega,fun q hq hf=>HGG.out q hq (fun e=>hf (.inr e))⟩ (fun _=> .inl rfl) _
  have hst:Rf w bo lo F (.slice av L.length cv) (L++EV b i to) (.returned (.tuple #[])) (w8.setCell ⟨bo,0,none⟩ (.slice a8 (L.length+1) c8)):=by
   rw[HLIT.out];have hll:(L++[(⟨D,0,0⟩:Tok)]).length=L.length+1:=zN;refine⟨rfl,a8,c8,cells++[[.slice a5 D.length c5,.int .i64 0,.int .i64 0]],?_,?_,htch,?_⟩
   ·rw[hll];exact hB8.set 0 _
   ·rw[hll];exact OP9
   ·rw[hll]
    rcases HA8.out with h | h
    ·exact .inl h
    ·exact .inr ⟨_,h,zH⟩
  have HST:=hid hst;clear hst htch OP9 OPU OF2 hx keepA hA hoo' hsz hB8;go_wp2_with fail;refine Al (Ax rfl _ _ _) rfl ?_;exact HST.out
 ·have hlit:EV b i to=[]:=by unfold EV;rw[Ak hit]
  have d1:decide ((i:Int)<(to:Int))=false:=zH;have d1':decide (i<to)=false:=zH;have hst:Rf w bo lo F (.slice av L.length cv) (L++EV b i to) (.returned (.tuple #[])) w:=by
   rw[hlit,BK];exact⟨rfl,av,cv,cells,ho,hown.mono fun q h=> .inl h,Tch.refl _ _,.inl rfl⟩
  have HST:=hid hst;clear hst hlit hown ho hb hl hf hit;go_enter Tryz.func372,Tryz.ntmps372;go_wp2;refine Al (Ax rfl _ _ _) rfl ?_;exact HST.out
structure Rs where
 p:Nat
 k:Int
 f:Int
def Rs.fail(s:Rs)(c at_:Int):Rs:=if s.k=0 then ⟨s.p,c,at_⟩ else s
def Rs.skip(L:Nat)(s:Rs)(n:Int):Bool × Rs:=
 if s.k=0 then (if n<0 then (false,⟨s.p,17,s.p⟩) else if (L:Int)-s.p<n then (false,⟨s.p,1,L⟩) else (true,⟨s.p+n.toNat,0,0⟩)) else (false,s)
def Rs.take(B:List UInt8)(s:Rs)(n:Int):Rs × List UInt8:=((s.skip B.length n).2,if (s.skip B.length n).1 then (B.drop s.p).take n.toNat else [])
def Rs.byte(B:List UInt8)(s:Rs):Rs × UInt8:=((s.skip B.length 1).2,if (s.skip B.length 1).1 then B.getD s.p 0 else 0)
structure Rs.ok(s:Rs)(L:Nat):Prop where
 le:s.p≤L
 zero:s.k=0→s.f=0
theorem Rs.Co{s:Rs}(h:s.ok L){c at_:Int}(hc:c≠0):(s.fail c at_).ok L:=by
 unfold Rs.fail;split
 ·exact⟨h.le,fun e=>absurd e hc⟩
 ·exact h
theorem Rs.Vb{s:Rs}(h:s.ok L)(n:Int):(s.skip L n).2.ok L:=by
 have:=h.le;unfold Rs.skip;split
 ·split
  ·exact⟨h.le,fun e=>by simp at e⟩
  ·split
   ·exact⟨h.le,fun e=>by simp at e⟩
   ·exact⟨zJ,fun _=>rfl⟩
 ·exact h
theorem Rs.Xt{s:Rs}(h:s.ok L)(n:Int):s.p≤(s.skip L n).2.p:=by
 unfold Rs.skip;split
 ·split
  ·exact An _
  ·split
   ·exact An _
   ·dsimp only;omega
 ·exact An _
theorem Rs.IS{s:Rs}(h:s.ok B.length)(n:Int):(s.take B n).1.ok B.length:=s.Vb h n
theorem Rs.Iq{s:Rs}(h:s.ok B.length):(s.byte B).1.ok B.length:=s.Vb h 1
structure A6(w:World)(g:Nat)(B:List UInt8)(a:Option Addr)(s:Rs):Prop where
 blk:Blk w g 222 #[.slice a B.length B.length,.int .i64 (s.p:Int),.int .i64 s.k,.int .i64 s.f]
 dat:Ah.r (fun q=>q<w.heap.size∧q≠g) w [.slice a B.length B.length] B
 ok:s.ok B.length
def AG(w:World)(g:Nat)(B:List UInt8)(a:Option Addr)(s':Rs)(w':World):Prop:=A6 w' g B a s'∧Tch (·=g) w w'
section
variable {w w1 w2:World} {g:Nat} {B:List UInt8} {a:Option Addr} {s s':Rs}
theorem A6.later(h:A6 w g B a s)(hb:Below w.heap.size w w1):A6 w1 g B a s:=
 ⟨h.blk.later hb,Ah.mono (Ah.keep h.dat fun q hq=>hb.block q hq.1) fun q hq=>⟨Aj hq.1 hb.size,hq.2⟩,h.ok⟩
theorem A6.len(h:A6 w g B a s):B.length≤9223372036854775807:=(AT h.dat).2.1
theorem AG.later(h:A6 w g B a s)(hb:Below w.heap.size w w1):AG w g B a s w1:=⟨h.later hb,Tch.Cx hb⟩
theorem AG.refl(h:A6 w g B a s):AG w g B a s w:=⟨h,Tch.refl _ _⟩
theorem AG.trans(h:Tch (·=g) w w1)(k:AG w1 g B a s' w2):AG w g B a s' w2:=⟨k.1,h.trans k.2 fun _ _ h=>h⟩
theorem AG.then(h:AG w g B a s w1)(hb:Below w1.heap.size w1 w2):AG w g B a s w2:=⟨h.1.later hb,h.2.trans (Tch.Cx (F:=(·=g)) hb) fun _ _ h=>h⟩
theorem AG.size(h:AG w g B a s w1):w.heap.size≤w1.heap.size:=h.2.size
theorem AG.below{b:Nat}(h:AG w g B a s w1)(hb:b≤w.heap.size)(hg:b≤g):Below b w w1:=h.2.Cw hb fun q _ e=>e ▸ hg
end
theorem Cj{m:Nat}(hl:l=[])(hm:m=0)(hc:c≤9223372036854775807):Ah.r S w [.slice a m c] l:=by
 subst hl hm;exact Bt (xs:=[]) rfl (Am _) hc (.inl rfl)
theorem JX(h:Ah.r S w [.slice a B.length c] B)(h1:lo≤hi)(h2:hi≤B.length):
  ∃A' c',(∀w':World,(Instr.slice 22 (.slice a B.length c) (some (.int .i64 (lo:Int))) (some (.int .i64 (hi:Int))) none).run Tryz.prog w'=.ok (.slice A' (hi-lo) c') w')∧Ah.r S w [.slice A' (hi-lo) c'] ((B.drop lo).take (hi-lo)):=by
 obtain⟨_,hm,hc,hcm⟩:=AT h;have g1:(0:Int)≤(lo:Int):=zD;have g2:(lo:Int)≤(hi:Int):=zD;have g3:(hi:Int)≤(c:Int):=zD;rcases Bh lo hi with hlt | hge
 ·obtain⟨ga,oa,hA,hga,_⟩:=Cs h (i:=lo) zD
  subst hA;have hd:=Qx h (k:=lo) zD;rw[Fi] at hd;have hsub:=Ic hd (k:=hi-lo) zH;refine⟨some ⟨ga,oa+lo,none⟩,c-lo,fun w'=> ?_,hsub⟩;have g4:¬c=lo:=zD;clear h hd hsub;go_simp
 ·obtain rfl:lo=hi:=by omega
  by_cases g4:c=lo
  ·refine⟨a,c-lo,fun w'=> ?_,Cj zN zD zD⟩
   clear h;subst g4;go_simp
  ·refine⟨a.map (·.add (lo*1)),c-lo,fun w'=> ?_,Cj zN zD zD⟩
   clear h;go_simp
theorem YM(h:Ah.r S w [.slice a B.length c] B)(h1:lo≤B.length):
  ∃A' c',(∀w':World,(Instr.slice 22 (.slice a B.length c) (some (.int .i64 (lo:Int))) none none).run Tryz.prog w'=.ok (.slice A' (B.length-lo) c') w')∧Ah.r S w [.slice A' (B.length-lo) c'] (B.drop lo):=by
 obtain⟨_,hm,hc,hcm⟩:=AT h;have g1:(0:Int)≤(lo:Int):=zD;have g2:(lo:Int)≤(B.length:Int):=zD;rcases Bh lo B.length with hlt | hge
 ·obtain⟨ga,oa,hA,hga,_⟩:=Cs h (i:=lo) zD
  subst hA;have hd:=Qx h (k:=lo) zD;rw[Fi] at hd;refine⟨some ⟨ga,oa+lo,none⟩,c-lo,fun w'=> ?_,hd⟩;have g4:¬c=lo:=zD;clear h hd;go_simp
 ·obtain rfl:lo=B.length:=by omega
  by_cases g4:c=B.length
  ·refine⟨a,c-B.length,fun w'=> ?_,Cj zN zD zD⟩
   clear h;subst g4;go_simp
  ·refine⟨a.map (·.add (B.length*1)),c-B.length,fun w'=> ?_,Cj zN zD zD⟩
   clear h;go_simp
theorem CX(w:World)(k f:Int):Calls Tryz.prog 65 #[.agg #[.int .i64 k,.int .i64 f]] w fun r w'=>r=.returned (.bool (decide (k=0)))∧Below w.heap.size w w':=by
 go_enter Tryz.func65,Tryz.ntmps65;go_wp2;go_ret;exact⟨zA7,zB⟩
theorem Ot(w:World)(k f:Int)(hk:k≠0):Calls Tryz.prog 154 #[.int .i64 k,.int .i64 f] w fun r w'=>r=.returned (.agg #[.int .i64 k,.int .i64 f])∧Below w.heap.size w w':=by
 have d1:(k==(0:Int))=false:=zBs;go_enter Tryz.func154,Tryz.ntmps154;go_wp2;refine Al (v:=.agg #[.int .i64 k,.int .i64 f]) (by simp[results,Tryz.results154,go_sem]) rfl ⟨rfl,zB⟩
theorem NW(w:World)(B:List UInt8)(a:Option Addr)(n c:Nat)(hl:Ah.r (·<w.heap.size) w [.slice a n c] B):
  Calls Tryz.prog 109 #[.slice a n c] w fun r w'=>r=.returned (.pointer (some ⟨w.heap.size,0,none⟩))∧A6 w' w.heap.size B a ⟨0,0,0⟩∧Below w.heap.size w w':=by
 obtain⟨rfl,hm,hc,hcm⟩:=AT hl;have hD:Ah.r (fun q=>q<w.heap.size) w [.slice a B.length B.length] B:=by
  obtain⟨a',c',e,h1,h2,h3⟩:=hl;simp at e;obtain⟨rfl,rfl⟩:=e;exact Bt rfl (An _) (by simp[maxLen];omega) h3
 have HD:=hid hD;have g1:(B.length:Int)≤(c:Int):=zD;clear hl hD;go_enter Tryz.func109,Tryz.ntmps109;go_wp2;go_ret;refine⟨rfl,⟨zC,?_,⟨Am _,fun _=>rfl⟩⟩,zB⟩;exact Ah.mono (Ah.keep HD.out fun q hq=>Bx _ _ q hq) fun q hq=>⟨zH,zD⟩
theorem AL(w:World){g:Nat}{B:List UInt8}{a:Option Addr}{s:Rs}(h:A6 w g B a s):Calls Tryz.prog 112 #[.pointer (some ⟨g,0,none⟩)] w fun r w'=>r=.returned (.bool (decide (s.k=0)))∧Below w.heap.size w w':=by
 have c2:w.cell? ⟨g,2,none⟩=some (.int .i64 s.k):=h.blk.cell 2;have c3:w.cell? ⟨g,3,none⟩=some (.int .i64 s.f):=h.blk.cell 3;clear h;go_enter Tryz.func112,Tryz.ntmps112;go_wp2_with fail;refine (CX w s.k s.f).mono ?_;rintro r w1 ⟨rfl,hb⟩;go_wp2;go_ret;exact⟨rfl,hb⟩
theorem BP(w:World){g:Nat}{B:List UInt8}{a:Option Addr}{s:Rs}(h:A6 w g B a s)(k f:Int)(hk:k≠0):Calls Tryz.prog 124 #[.pointer (some ⟨g,0,none⟩),.int .i64 k,.int .i64 f] w fun r w'=>r=.returned (.tuple #[])∧AG w g B a (s.fail k f) w':=by
 have HG:=hid (AL w h);have HH:=hid h;by_cases h0:s.k=0
 ·have e:s.fail k f=⟨s.p,k,f⟩:=by unfold Rs.fail;rw[Ai h0]
  have hr:decide (s.k=0)=true:=Ad h0;rw[hr] at HG;rw[e];clear h h0 hr e;go_enter Tryz.func124,Tryz.ntmps124;go_wp2_with fail;refine HG.out.mono ?_;rintro r w1 ⟨rfl,hb⟩;go_wp2_with fail;refine (Ot w1 k f hk).mono ?_;rintro r w2 ⟨rfl,hb2⟩;have hb12:=Af hb2 hb;have h2:=HH.out.later hb12;have f2:=h2.blk.free 2;have f3:=h2.blk.free 3;have c2:=h2.blk.cell 2;have c3:=h2.blk.cell 3;have lt:=h2.blk.lt;simp at c2 c3;have H2:=hid h2;have hst:AG w2 g B a ⟨s.p,k,f⟩ ((w2.setCell ⟨g,2,none⟩ (.int .i64 k)).setCell ⟨g,3,none⟩ (.int .i64 f)):=by
   refine⟨⟨(h2.blk.set 2 _).set 3 _,?_,h2.ok.le,fun e=>absurd e hk⟩,Tch.setCell (F:=(·=g)) (Tch.setCell (F:=(·=g)) (Tch.refl _ _) (fun _=>rfl) _) (fun _=>rfl) _⟩;refine Ah.mono (Ah.keep h2.dat fun q hq=> ?_) fun q hq=>⟨by simp[World.setCell];exact hq.1,hq.2⟩;rw[AB _ _ _ _ (fun e=>hq.2 e),AB _ _ _ _ (fun e=>hq.2 e)]
  have HST:=hid (AG.trans (Tch.Cx (F:=(·=g)) hb12) hst);clear h2 hst;go_wp2;go_end0
  exact⟨rfl,HST.out⟩
 ·have e:s.fail k f=s:=by unfold Rs.fail;rw[Ak h0]
  have hr:decide (s.k=0)=false:=Ae h0;rw[hr] at HG;rw[e];clear h h0 hr e;go_enter Tryz.func124,Tryz.ntmps124;go_wp2_with fail;refine HG.out.mono ?_;rintro r w1 ⟨rfl,hb⟩;go_wp2;go_end0
  exact⟨rfl,AG.later HH.out hb⟩
theorem Hk(w:World){s:Rs}(h:A6 w g B a s):Calls Tryz.prog 114 #[.pointer (some ⟨g,0,none⟩)] w fun r w'=>r=.returned (.agg #[.int .i64 s.k,.int .i64 s.f])∧Below w.heap.size w w':=by
 have c2:w.cell? ⟨g,2,none⟩=some (.int .i64 s.k):=h.blk.cell 2;have c3:w.cell? ⟨g,3,none⟩=some (.int .i64 s.f):=h.blk.cell 3;have lt:=h.blk.lt;clear h;go_enter Tryz.func114,Tryz.ntmps114;go_wp2;refine Al (v:=.agg #[.int .i64 s.k,.int .i64 s.f]) (by simp[results,Tryz.results114,go_sem]) rfl ⟨rfl,zB⟩
theorem Cv(w:World){s:Rs}(h:A6 w g B a s):Calls Tryz.prog 173 #[.pointer (some ⟨g,0,none⟩)] w fun r w'=>r=.returned (.int .i64 (s.p:Int))∧w=w':=by
 have c1:w.cell? ⟨g,1,none⟩=some (.int .i64 (s.p:Int)):=h.blk.cell 1;clear h;go_enter Tryz.func173,Tryz.ntmps173;go_wp2;go_ret;exact⟨rfl,rfl⟩
theorem Nc(w:World){B:List UInt8}{s:Rs}(h:A6 w g B a s):Calls Tryz.prog 267 #[.pointer (some ⟨g,0,none⟩)] w fun r w'=>r=.returned (.int .i64 ((B.length:Int)-(s.p:Int)))∧Below w.heap.size w w':=by
 have C0:=fun s:AX w=>s.cell (h.blk.cell 0);have C1:=fun s:AX w=>s.cell (h.blk.cell 1);simp at C0 C1;have hle:=h.ok.le;have hle2:=h.len;clear h;go_enter Tryz.func267,Tryz.ntmps267;go_wp2_with fail;refine AR zI zI ?_;repeat (go_big_quiet_step (fail))
 refine Bm ?_;rintro W5 ⟨⟨W5',hb5⟩,rfl⟩;go_wp2;go_ret;exact⟨zA7,hb5⟩
theorem Vg(w:World){g:Nat}{B:List UInt8}{a:Option Addr}{s:Rs}(h:A6 w g B a s)(n:Int)(hn:n≤9223372036854775807):Calls Tryz.prog 262 #[.pointer (some ⟨g,0,none⟩),.int .i64 n] w fun r w'=>r=.returned (.bool (s.skip B.length n).1)∧AG w g B a (s.skip B.length n).2 w':=by
 have HG:=hid (AL w h);have HH:=hid h;have hle:=h.ok.le;have hle2:=h.len;by_cases h0:s.k=0
 ·have hr:decide (s.k=0)=true:=Ad h0
  rw[hr] at HG;by_cases h1:n<0
  ·have e:s.skip B.length n=(false,⟨s.p,17,s.p⟩):=by unfold Rs.skip;rw[Ai h0,Ai h1]
   have ef:s.fail 17 s.p=⟨s.p,17,s.p⟩:=by unfold Rs.fail;rw[Ai h0]
   have d1:decide (n<(0:Int))=true:=Ad h1;rw[e];dsimp only;rw[←ef];clear h h0 hr e ef;go_enter Tryz.func262,Tryz.ntmps262;go_wp2_with fail;refine HG.out.mono ?_;rintro r w1 ⟨rfl,hb⟩;have hh1:=HH.out.later hb;have c1:=hh1.blk.cell 1;simp at c1;have HF:=hid (BP w1 hh1 17 s.p zD);clear hh1;go_wp2_with fail;refine HF.out.mono ?_;rintro r w2 ⟨rfl,hst⟩;have HST:=hid (AG.trans (Tch.Cx (F:=(·=g)) hb) hst);clear hst;go_wp2;go_ret;exact⟨rfl,HST.out⟩
  ·have d1:decide (n<(0:Int))=false:=Ae h1
   by_cases h2:(B.length:Int)-s.p<n
   ·have e:s.skip B.length n=(false,⟨s.p,1,B.length⟩):=by unfold Rs.skip;rw[Ai h0,Ak h1,Ai h2]
    have ef:s.fail 1 B.length=⟨s.p,1,B.length⟩:=by unfold Rs.fail;rw[Ai h0]
    have d2:decide ((B.length:Int)-(s.p:Int)<n)=true:=Ad h2;rw[e];dsimp only;rw[←ef];clear h h0 hr e ef;go_enter Tryz.func262,Tryz.ntmps262;go_wp2_with fail;refine HG.out.mono ?_;rintro r w1 ⟨rfl,hb⟩;have hh1:=HH.out.later hb;have HL:=hid (Nc w1 hh1);go_wp2_with fail;refine HL.out.mono ?_;rintro r w2 ⟨rfl,hb2⟩;have hb12:=Af hb2 hb;have hh2:=HH.out.later hb12;have c0:=hh2.blk.cell 0;simp at c0;have HF:=hid (BP w2 hh2 1 B.length zD);clear hh1 hh2;go_wp2_with fail;refine HF.out.mono ?_;rintro r w3 ⟨rfl,hst⟩;have HST:=hid (AG.trans (Tch.Cx (F:=(·=g)) hb12) hst);clear hst;go_wp2;go_ret;exact⟨rfl,HST.out⟩
   ·have e:s.skip B.length n=(true,⟨s.p+n.toNat,0,0⟩):=by unfold Rs.skip;rw[Ai h0,Ak h1,Ak h2]
    have d2:decide ((B.length:Int)-(s.p:Int)<n)=false:=Ae h2;have hz:=h.ok.zero h0;rw[e];obtain⟨m,rfl⟩:∃m:Nat,n=m:=⟨n.toNat,zD⟩;have e1:((m:Int)).toNat=m:=zD;rw[e1];have hle3:s.p+m≤B.length:=zD;have HZ:=hid hz;have H0:=hid h0;clear h h0 hr e e1 hz;go_enter Tryz.func262,Tryz.ntmps262;go_wp2_with fail;refine HG.out.mono ?_;rintro r w1 ⟨rfl,hb⟩;have hh1:=HH.out.later hb;have HL:=hid (Nc w1 hh1);go_wp2_with fail;refine HL.out.mono ?_;rintro r w2 ⟨rfl,hb2⟩;have hb12:=Af hb2 hb;have hh2:=HH.out.later hb12;have c1:=hh2.blk.cell 1;have f1:=hh2.blk.free 1;have lt:=hh2.blk.lt;simp at c1;have hst:AG w2 g B a ⟨s.p+m,0,0⟩ (w2.setCell ⟨g,1,none⟩ (.int .i64 ((s.p:Int)+(m:Int)))):=by
     refine⟨⟨?_,?_,hle3,fun _=>rfl⟩,Tch.setCell (F:=(·=g)) (Tch.refl _ _) (fun _=>rfl) _⟩
     ·have:=hh2.blk.set 1 (.int .i64 ((s.p:Int)+(m:Int)))
      rw[H0.out,HZ.out] at this;simpa using this
     ·refine Ah.mono (Ah.keep hh2.dat fun q hq=> ?_) fun q hq=>⟨by simp[World.setCell];exact hq.1,hq.2⟩
      rw[AB _ _ _ _ (fun e=>hq.2 e)]
    have HST:=hid (AG.trans (Tch.Cx (F:=(·=g)) hb12) hst);clear hh1 hh2 hst;go_wp2;go_ret;exact⟨rfl,HST.out⟩
 ·have e:s.skip B.length n=(false,s):=by unfold Rs.skip;rw[Ak h0]
  have hr:decide (s.k=0)=false:=Ae h0;rw[hr] at HG;rw[e];clear h h0 hr e;go_enter Tryz.func262,Tryz.ntmps262;go_wp2_with fail;refine HG.out.mono ?_;rintro r w1 ⟨rfl,hb⟩;go_wp2;go_ret;exact⟨rfl,AG.later HH.out hb⟩
theorem Rs.FG{s:Rs}{n:Int}(h:(s.skip L n).1=true):s.k=0∧0≤n∧n≤(L:Int)-s.p∧(s.skip L n).2=⟨s.p+n.toNat,0,0⟩:=by
 unfold Rs.skip at*;split at h
 ·rename_i h0
  split at h
  ·simp at h
  ·split at h
   ·simp at h
   ·rename_i h1 h2
    exact⟨h0,zD,zD,by rw[Ai h0,Ak h1,Ak h2]⟩
 ·simp at h
theorem Rs.IT{s:Rs}{n:Int}(h:(s.skip L n).1=false):(s.skip L n).2.k≠0∧(s.skip L n).2.p=s.p:=by
 unfold Rs.skip at*;split at h
 ·rename_i h0
  split at h
  ·rename_i h1
   rw[Ai h0,Ai h1];simp
  ·rename_i h1
   split at h
   ·rename_i h2
    rw[Ai h0,Ak h1,Ai h2];simp
   ·simp at h
 ·rename_i h0
  rw[Ak h0];exact⟨h0,rfl⟩
theorem Nd(w:World){g:Nat}{B:List UInt8}{a:Option Addr}{s:Rs}(h:A6 w g B a s):Calls Tryz.prog 195 #[.pointer (some ⟨g,0,none⟩)] w fun r w'=>r=.returned (.int .u8 ((s.byte B).2.toNat:Int))∧AG w g B a (s.byte B).1 w':=by
 have HS:=hid (Vg w h 1 zD);have hle2:=h.len;unfold Rs.byte;cases hk:(s.skip B.length 1).1
 ·rw[hk] at HS
  generalize (s.skip B.length 1).2=s1 at*;clear h hk;go_enter Tryz.func195,Tryz.ntmps195;go_wp2_with fail;refine HS.out.mono ?_;rintro r w1 ⟨rfl,hst⟩;have HST:=hid hst;clear hst;go_wp2;go_ret;exact⟨rfl,HST.out⟩
 ·obtain⟨h0,_,h2,h3⟩:=Rs.FG hk
  rw[hk,h3] at HS;rw[h3];have hp:s.p<B.length:=zD;have hbd:B.getD s.p 0=B[s.p]:=by simp[hp]
  simp only[Fx];rw[hbd];generalize hx:B[s.p]=x;have HX:=hid hx;rw[show s.p+(1:Int).toNat=s.p+1 by omega] at*;clear h hk h0 h2 h3 hbd hx;go_enter Tryz.func195,Tryz.ntmps195;go_wp2_with fail;refine HS.out.mono ?_;rintro r w1 ⟨rfl,hst⟩;obtain⟨ga,oa,hA,hga,hc⟩:=Cs hst.1.dat hp;rw[HX.out] at hc;subst hA;have c1:=hst.1.blk.cell 1;simp at c1;have C0:=fun s:AX w1=>s.cell (hst.1.blk.cell 0);have C1:=fun s:AX w1=>s.cell c1;have CB:=fun s:AX w1=>s.cell hc;simp at C0;have HST:=hid hst;clear hst hc c1;have i1:(s.p:Int)<(B.length:Int):=zD;have i2:(0:Int)≤(s.p:Int):=zD;have hb1:(s.p:Int)≤9223372036854775807:=zD;go_wp2_with fail;have i3:wrap64 (s.p:Int)=s.p:=by simp only[wrap64];omega
  refine AR zI zI ?_;repeat (go_big_quiet_step (fail))
  refine Bm ?_;clear i3;rintro W5 ⟨⟨W5',hb5⟩,rfl⟩;go_wp2;go_ret;exact⟨rfl,HST.out.then hb5⟩
theorem Nb(w:World){g:Nat}{B:List UInt8}{a:Option Addr}{s:Rs}(h:A6 w g B a s)(n:Int)(hn:n≤9223372036854775807)(hB:B.length≤1000000000000):Calls Tryz.prog 200 #[.pointer (some ⟨g,0,none⟩),.int .i64 n] w fun r w'=>∃v,r=.returned v∧Ah.r (fun q=>w.heap.size≤q∧q<w'.heap.size) w' [v] (s.take B n).2∧AG w g B a (s.take B n).1 w':=by
 have HS:=hid (Vg w h n hn);unfold Rs.take;cases hk:(s.skip B.length n).1
 ·rw[hk] at HS
  generalize (s.skip B.length n).2=s1 at*;clear h hk;go_enter Tryz.func200,Tryz.ntmps200;go_wp2_with fail;refine HS.out.mono ?_;rintro r w1 ⟨rfl,hst⟩;have HST:=hid hst;clear hst;go_wp2;go_ret;exact⟨_,rfl,Cj rfl rfl zD,HST.out⟩
 ·obtain⟨h0,h1,h2,h3⟩:=Rs.FG hk
  rw[hk,h3] at HS;rw[h3];obtain⟨m,rfl⟩:∃m:Nat,n=m:=⟨n.toNat,zD⟩;rw[show ((m:Int)).toNat=m by omega] at*;obtain⟨i0,hi,hz0,hz1,hz2⟩:=A3 DH;have hp:s.p+m≤B.length:=by have:=h.ok.le;omega
  simp only[Fx];clear h hk h0 h1 h2 h3;go_enter Tryz.func200,Tryz.ntmps200;go_wp2_with fail;refine HS.out.mono ?_;rintro r w1 ⟨rfl,hst⟩;obtain⟨aD,cD,hsl,hsub⟩:=JX hst.1.dat (lo:=s.p) (hi:=s.p+m) zD hp;have hlD:((B.drop s.p).take (s.p+m-s.p)).length=m:=zH;rw[show s.p+m-s.p=m by omega] at hsl hsub hlD;generalize hDe:(B.drop s.p).take m=D at*;have HDE:=hid hDe;clear hDe;have hDm:m=D.length:=hlD.symm;obtain⟨P1,hP1⟩:∃P1:Nat,P1=s.p+m:=⟨_,rfl⟩;rw[←hP1,show (s.p:Int)=(P1:Int)-(m:Int) by omega] at hsl;have HSB:=hid (fun (W:World) (hW:Below w1.heap.size w1 W)=>A8 (l:=D) (lift (w:=w1) (A:=Ah) (cs:=[.slice aD D.length cD]) zCh hW));have HONE:=hid (AI D);have c1:=hst.1.blk.cell 1;have c0:=hst.1.blk.cell 0;simp at c0;rw[←hP1] at c1 hst hp;simp at c1;have lt:=hst.1.blk.lt;have HST:=hid hst;have HDM:=hid hDm;have hs1:=hst.size;have HP1:=hid hP1;have hPm:m≤P1:=zD;clear hst hsub hlD hDm hP1;have hb1:(P1:Int)≤9223372036854775807:=zD;go_wp2_with fail;have j1:IntKind.i64.wrap ((P1:Int)-(m:Int))=(P1:Int)-(m:Int):=IntWalk.i64_in _ zD;go_region_held3 (fun w'=>w'.cell? ⟨g,0,none⟩=some (.slice a B.length B.length)∧w'.cell? ⟨g,1,none⟩=some (.int .i64 (P1:Int))) (((try dsimp only);refine⟨?_,?_⟩<;>(first | assumption | (go_keep;done))))
   ((go_loud (refine BG zS _ _ _ zS w1.heap.size 5 i0 (.int .u8 0) 1 1 Au hi hz0 hz1 hz2 rfl zO _ 0 [] zS (Gk _ zN zS) aD m cD (byteCells D) zS zX HONE.out (by clear j1;simp only[maxLen];omega) (by clear j1;omega) zN ?_;intro a5 c5 w5 hown5 hgrow5 hat5;rw[A1] at hown5;have k5:Below w1.heap.size w1 w5:=Below.grown zB hgrow5 zN (fun g e=>by {have e':some w1.heap.size=some g:=e;injection e' with e';clear j1;omega});have e0:=(k5.cell (p:=⟨g,0,none⟩) lt).trans c0;have e1:=(k5.cell (p:=⟨g,1,none⟩) lt).trans c1;have HK5:=hid k5;have HO5:=hid hown5;clear hown5 hgrow5 hat5 k5)))
  all_goals
   clear j1;have ho:=HO5.out;rw[AV] at ho;have hA:=Cg HDM.out ho;have HA:=hid hA;clear ho hA;go_wp2;go_ret;refine⟨_,rfl,?_,?_⟩
   ·rw[HDE.out]
    exact Ah.mono HA.out fun q hq=>⟨zD,hq.2⟩
   ·rw[←HP1.out]
    exact HST.out.then HK5.out
theorem XG(w:World){B:List UInt8}{s:Rs}(h:A6 w g B a s)(at_:Nat)(hat:at_≤s.p)(hB:B.length≤1000000000000):Calls Tryz.prog 214 #[.pointer (some ⟨g,0,none⟩),.int .i64 (at_:Int)] w fun r w'=>∃v,r=.returned v∧Ah.r (fun q=>w.heap.size≤q∧q<w'.heap.size) w' [v] ((B.drop at_).take (s.p-at_))∧Below w.heap.size w w':=by
 obtain⟨i0,hi,hz0,hz1,hz2⟩:=A3 DH;have hp:s.p≤B.length:=h.ok.le;obtain⟨aD,cD,hsl,hsub⟩:=JX h.dat (lo:=at_) (hi:=s.p) hat hp;have hlD:((B.drop at_).take (s.p-at_)).length=s.p-at_:=zH;obtain⟨m,hm⟩:∃m:Nat,m=s.p-at_:=⟨_,rfl⟩;rw[←hm] at hsl hsub hlD ⊢;generalize (B.drop at_).take m=D at*;have hDm:m=D.length:=hlD.symm;have HSB:=hid (fun (W:World) (hW:Below w.heap.size w W)=>A8 (l:=D) (lift (w:=w) (A:=Ah) (cs:=[.slice aD D.length cD]) zCh hW));have HONE:=hid (AI D);have c1:=h.blk.cell 1;have c0:=h.blk.cell 0;simp at c0 c1;have lt:=h.blk.lt;have HDM:=hid hDm;generalize s.p=P1 at*;have d1:decide ((at_:Int)<0)=false:=Ae zD;have d2:decide ((P1:Int)<(at_:Int))=false:=Ae zD;have d3:decide (P1<at_)=false:=Ae zD;have hmB:m≤B.length:=zD;clear h hsub hlD hDm hm;go_enter Tryz.func214,Tryz.ntmps214;go_wp2_with fail;go_region_held3 (fun w'=>w'.cell? ⟨g,0,none⟩=some (.slice a B.length B.length)∧w'.cell? ⟨g,1,none⟩=some (.int .i64 (P1:Int))) (((try dsimp only);refine⟨?_,?_⟩<;>(first | assumption | (go_keep;done))))
  ((go_loud (refine BG zS _ _ _ zS w.heap.size 5 i0 (.int .u8 0) 1 1 Au hi hz0 hz1 hz2 rfl zO _ 0 [] zS (Gk _ zN zS) aD m cD (byteCells D) zS zX HONE.out zK zD zN ?_;intro a5 c5 w5 hown5 hgrow5 hat5;rw[A1] at hown5;have k5:Below w.heap.size w w5:=Below.grown zB hgrow5 zN (fun g e=>zBo);have e0:=(k5.cell (p:=⟨g,0,none⟩) lt).trans c0;have e1:=(k5.cell (p:=⟨g,1,none⟩) lt).trans c1;have HK5:=hid k5;have HO5:=hid hown5;clear hown5 hgrow5 hat5 k5)))
 all_goals
  have ho:=HO5.out;rw[AV] at ho;have hA:=Cg HDM.out ho;have HA:=hid hA;clear ho hA;go_wp2;go_ret;exact⟨_,rfl,HA.out,HK5.out⟩
def CV(a:Option Addr)(n c:Nat)(s:Rs):Value:=.agg #[.slice a n c,.int .i64 (s.p:Int),.int .i64 s.k,.int .i64 s.f]
theorem DI(h:Blk w g t #[v0,v1,v2,v3]):w.cell? ⟨g,0,none⟩=some v0∧w.cell? ⟨g,1,none⟩=some v1∧w.cell? ⟨g,2,none⟩=some v2∧w.cell? ⟨g,3,none⟩=some v3∧w.frozen? ⟨g,0,none⟩=false∧w.frozen? ⟨g,1,none⟩=false∧w.frozen? ⟨g,2,none⟩=false∧w.frozen? ⟨g,3,none⟩=false∧g<w.heap.size:=
 ⟨h.cell 0,h.cell 1,h.cell 2,h.cell 3,h.free 0,h.free 1,h.free 2,h.free 3,h.lt⟩
theorem B6(h:Blk w g t #[v0,v1]):w.cell? ⟨g,0,none⟩=some v0∧w.cell? ⟨g,1,none⟩=some v1∧w.frozen? ⟨g,0,none⟩=false∧w.frozen? ⟨g,1,none⟩=false∧g<w.heap.size:=
 ⟨h.cell 0,h.cell 1,h.free 0,h.free 1,h.lt⟩
theorem Hj(w:World)(k f:Int)(hk:k≠0):Calls Tryz.prog 84 #[.int .i64 k,.int .i64 f] w fun r w'=>r=.returned (.agg #[.int .i64 k,.int .i64 f])∧Below w.heap.size w w':=by
 have d1:(k==(0:Int))=false:=zBs;have d2:(k !=(0:Int))=true:=zBs;go_enter Tryz.func84,Tryz.ntmps84;go_wp2;refine Al (v:=.agg #[.int .i64 k,.int .i64 f]) (by simp[results,Tryz.results84,go_sem]) rfl ⟨rfl,zB⟩
theorem IX(w:World)(a:Option Addr)(n c:Nat)(s:Rs)(k f:Int)(hk:k≠0):Calls Tryz.prog 75 #[CV a n c s,.int .i64 k,.int .i64 f] w fun r w'=>r=.returned (CV a n c (s.fail k f))∧Below w.heap.size w w':=by
 unfold CV;by_cases h0:s.k=0
 ·have e:s.fail k f=⟨s.p,k,f⟩:=by unfold Rs.fail;rw[Ai h0]
  have d1:(s.k==(0:Int))=true:=by simp[h0]
  have H0:=hid h0;rw[e];clear h0 e;go_enter Tryz.func75,Tryz.ntmps75;go_wp2_with fail;refine (Hj _ k f hk).mono ?_;rintro r w1 ⟨rfl,hb⟩;have B0:Blk w1 w.heap.size 91 #[.slice a n c,.int .i64 (s.p:Int),.int .i64 s.k,.int .i64 s.f]:=Blk.later zC hb;have B1:Blk w1 (w.heap.size+1) 91 #[.slice none 0 0,.int .i64 0,.int .i64 0,.int .i64 0]:=Blk.later zC hb;have x0:=B0.cell 0;have x1:=B0.cell 1;have x2:=B0.cell 2;have x3:=B0.cell 3;have y0:=B1.cell 0;have y1:=B1.cell 1;have y2:=B1.cell 2;have y3:=B1.cell 3;simp at x0 x1 x2 x3 y0 y1 y2 y3;have f2:=B0.free 2;have f3:=B0.free 3;have g0:=B1.free 0;have g1:=B1.free 1;have g2:=B1.free 2;have g3:=B1.free 3;have l0:=B0.lt;have l1:=B1.lt;have hbw:Below w.heap.size w w1:=zB;clear B0 B1 hb;go_wp2;refine Al (v:=.agg #[.slice a n c,.int .i64 (s.p:Int),.int .i64 k,.int .i64 f]) (by simp[results,Tryz.results75,go_sem,y0,y1,y2,y3,l1]) rfl ⟨rfl,zA⟩
 ·have e:s.fail k f=s:=by unfold Rs.fail;rw[Ak h0]
  have d1:(s.k==(0:Int))=false:=by simp[h0]
  have H0:=hid h0;rw[e];clear h0 e;go_enter Tryz.func75,Tryz.ntmps75;go_wp2;refine Al (v:=.agg #[.slice a n c,.int .i64 (s.p:Int),.int .i64 s.k,.int .i64 s.f]) (by simp[results,Tryz.results75,go_sem]) rfl ⟨rfl,zB⟩
theorem NV(w:World)(a:Option Addr)(c:Nat)(B:List UInt8)(hl:Ah.r (·<w.heap.size) w [.slice a B.length c] B)(s:Rs)(hs:s.ok B.length)(n:Int)(hn:n≤9223372036854775807)(hB:B.length≤1000000000000):
  Calls Tryz.prog 137 #[CV a B.length c s,.int .i64 n] w fun r w'=>∃v,r=.returned (.tuple #[CV a B.length c (s.take B n).1,v])∧Ah.r (fun q=>w.heap.size≤q∧q<w'.heap.size) w' [v] (s.take B n).2∧Below w.heap.size w w':=by
 obtain⟨i0,hi,hz0,hz1,hz2⟩:=A3 DH;unfold Rs.take;have hle:=hs.le;by_cases h0:s.k=0
 ·have d0:(s.k !=(0:Int))=false:=by simp[h0]
  have hF:=hid (fun (W:World) (k f:Int) (hk:k≠0)=>IX W a B.length c s k f hk);by_cases h1:n<0
  ·have e:s.skip B.length n=(false,s.fail 17 s.p):=by unfold Rs.skip Rs.fail;rw[Ai h0,Ai h1,Ai h0]
   have d1:decide (n<(0:Int))=true:=Ad h1;rw[e];generalize hs1:s.fail 17 s.p=s1;have HF:=hid (fun (W:World)=>hF.out W 17 s.p zD);rw[hs1] at HF;clear hl hs h0 e hF;unfold CV at*;go_enter Tryz.func137,Tryz.ntmps137;go_wp2_with fail;refine (HF.out _).mono ?_;rintro r w1 ⟨rfl,hb⟩;have B1:Blk w1 (w.heap.size+1) 91 #[.slice none 0 0,.int .i64 0,.int .i64 0,.int .i64 0]:=Blk.later zC hb;obtain⟨y0,y1,y2,y3,g0,g1,g2,g3,l1⟩:=DI B1;have hbw:Below w.heap.size w w1:=zA;clear B1 hb;go_wp2;refine Al (v:=.tuple #[.agg #[.slice a B.length c,.int .i64 (s1.p:Int),.int .i64 s1.k,.int .i64 s1.f],.slice none 0 0]) zAi rfl ⟨_,rfl,Cj rfl rfl zD,zA⟩
  ·have d1:decide (n<(0:Int))=false:=Ae h1
   by_cases h2:(B.length:Int)-s.p<n
   ·have e:s.skip B.length n=(false,s.fail 1 B.length):=by unfold Rs.skip Rs.fail;rw[Ai h0,Ak h1,Ai h2,Ai h0]
    have d2:decide ((B.length:Int)-(s.p:Int)<n)=true:=Ad h2;rw[e];generalize hs1:s.fail 1 B.length=s1;have HF:=hid (fun (W:World)=>hF.out W 1 B.length zD);rw[hs1] at HF;clear hl hs h0 e hF;unfold CV at*;go_enter Tryz.func137,Tryz.ntmps137;go_wp2_with fail;refine (HF.out _).mono ?_;rintro r w1 ⟨rfl,hb⟩;have B1:Blk w1 (w.heap.size+1) 91 #[.slice none 0 0,.int .i64 0,.int .i64 0,.int .i64 0]:=Blk.later zC hb;obtain⟨y0,y1,y2,y3,g0,g1,g2,g3,l1⟩:=DI B1;have hbw:Below w.heap.size w w1:=zA;clear B1 hb;go_wp2;refine Al (v:=.tuple #[.agg #[.slice a B.length c,.int .i64 (s1.p:Int),.int .i64 s1.k,.int .i64 s1.f],.slice none 0 0]) zAi rfl ⟨_,rfl,Cj rfl rfl zD,zA⟩
   ·have e:s.skip B.length n=(true,⟨s.p+n.toNat,0,0⟩):=by unfold Rs.skip;rw[Ai h0,Ak h1,Ak h2]
    have d2:decide ((B.length:Int)-(s.p:Int)<n)=false:=Ae h2;have hz:=hs.zero h0;rw[e];obtain⟨m,rfl⟩:∃m:Nat,n=m:=⟨n.toNat,zD⟩;rw[show ((m:Int)).toNat=m by omega];have hp:s.p+m≤B.length:=zD;simp only[Fx];obtain⟨aD,cD,hsl,hsub⟩:=JX hl (lo:=s.p) (hi:=s.p+m) zD hp;have hlD:((B.drop s.p).take (s.p+m-s.p)).length=m:=zH;rw[show s.p+m-s.p=m by omega] at hsl hsub hlD;rw[show ((s.p+m:Nat):Int)=(s.p:Int)+(m:Int) by omega] at hsl;generalize (B.drop s.p).take m=D at*;have hDm:m=D.length:=hlD.symm;have HSB:=hid (fun (W:World) (hW:Below w.heap.size w W)=>A8 (l:=D) (lift (w:=w) (A:=Ah) (cs:=[.slice aD D.length cD]) (by rw[←hDm];exact hsub) hW));have HONE:=hid (AI D);have HDM:=hid hDm;have H0:=hid h0;have HZ:=hid hz;clear hl hs h0 hz e hsub hlD hDm;unfold CV;go_enter Tryz.func137,Tryz.ntmps137;go_wp2_with (at_builtin;go_loud (refine Ar rfl _ _ _ rfl (w.heap.size+2) 5 i0 (.int .u8 0) 1 1 Au hi hz0 hz1 hz2 rfl zO (.slice none 0 0) 0 [] rfl ⟨rfl,.inl ⟨rfl,rfl⟩⟩ aD m cD (byteCells D) rfl zX HONE.out zK zD zF ?_;intro v' w2 hown2 hgrow2 hat2;rw[A1,AV] at hown2;obtain⟨a2,c2,rfl⟩:=AD hown2;have k2:=Below.grown (Below.refl _ _) hgrow2 (An _) (fun g e=>zAd);have B0:Blk w2 w.heap.size 91 #[.slice a B.length c,.int .i64 (s.p:Int),.int .i64 s.k,.int .i64 s.f]:=Blk.later zC k2;have B1:Blk w2 (w.heap.size+1) 91 #[.slice none 0 0,.int .i64 0,.int .i64 0,.int .i64 0]:=Blk.later zC k2;obtain⟨x0,x1,x2,x3,e0,e1,e2,e3,l0⟩:=DI B0;obtain⟨y0,y1,y2,y3,g0,g1,g2,g3,l1⟩:=DI B1;have hbw:Below w.heap.size w w2:=by {(repeat (first | with_reducible exact Below.refl _ _ | with_reducible assumption | (with_reducible refine AH ?_ _) | (with_reducible refine Below.setCell ?_ (by first | omega | (simp;done) | (simp;omega)) _) | (with_reducible refine Below.drew ?_) | (with_reducible refine below_drewN ?_ _) | (refine Af (by with_reducible assumption) ?_)))};have HO:=hid hown2;clear hown2 hgrow2 hat2 B0 B1 k2))
    have hA:=Cg HDM.out HO.out;have HA:=hid hA;clear hA;refine Al (v:=.tuple #[.agg #[.slice a B.length c,.int .i64 ((s.p:Int)+(m:Int)),.int .i64 s.k,.int .i64 s.f],.slice a2 m c2]) zAi rfl ⟨_,by rw[H0.out,HZ.out],?_,zA⟩;refine Ah.mono (Ah.keep HA.out fun q hq=> ?_) fun q hq=>⟨zD,zA1⟩;repeat (rw[AB _ _ _ _ zJ])
 ·have d0:(s.k !=(0:Int))=true:=by simp[h0]
  have e:s.skip B.length n=(false,s):=by unfold Rs.skip;rw[Ak h0]
  rw[e];clear hl hs h0 e;unfold CV;go_enter Tryz.func137,Tryz.ntmps137;go_wp2;refine Al (v:=.tuple #[.agg #[.slice a B.length c,.int .i64 (s.p:Int),.int .i64 s.k,.int .i64 s.f],.slice none 0 0]) (by simp[results,Tryz.results137,go_sem]) rfl ⟨_,rfl,Cj rfl rfl zD,zA⟩
def Cp:Nat→Nat→List UInt8→Nat × Nat × Int
 | i,x,[]=>(0,i,1)
 | i,x,c::l=>
  if i=9∧1<c.toNat then (0,i+1,5)
  else if 0<i∧c.toNat=0 then (0,i+1,4)
  else if c.toNat<128 then (x+c.toNat*128^i,i+1,0)
  else Cp (i+1) (x+c.toNat%128*128^i) l
def Rs.num(B:List UInt8)(s:Rs):Rs × Nat:=
 if s.k=0 then
  let r:=Cp 0 0 (B.drop s.p)
  (⟨s.p+r.2.1,r.2.2,if r.2.2=0 then 0 else if r.2.2=1 then B.length else s.p+r.2.1-1⟩,r.1)
 else (s,0)
theorem G9:∀(l:List UInt8) (i x:Nat),(Cp i x l).2.1≤i+l.length∧i≤(Cp i x l).2.1∧((Cp i x l).2.2=0∨(Cp i x l).2.2=1∨(Cp i x l).2.2=4∨(Cp i x l).2.2=5)∧((Cp i x l).2.2=1→(Cp i x l).2.1=i+l.length)∧((Cp i x l).2.2≠1→i<(Cp i x l).2.1)
 | [],i,x=>by simp[Cp]
 | c::l,i,x=>by
  unfold Cp;split
  ·simp
  ·split
   ·simp
   ·split
    ·simp
    ·have:=G9 l (i+1) (x+c.toNat%128*128^i)
     refine⟨zH,zD,this.2.2.1,fun h=>by have:=this.2.2.2.1 h;simp;omega,fun h=>by have:=this.2.2.2.2 h;omega⟩
theorem Rs.Dn{s:Rs}(h:s.ok B.length):(s.num B).1.ok B.length:=by
 unfold Rs.num;split
 ·have:=G9 (B.drop s.p) 0 0
  have hl:(B.drop s.p).length=B.length-s.p:=zN;refine⟨by dsimp only;have:=h.le;omega,fun e=>by dsimp only at e ⊢;rw[Ai e]⟩
 ·exact h
theorem Rs.Yh{s:Rs}:s.p≤(s.num B).1.p:=by
 unfold Rs.num;split
 ·dsimp only;omega
 ·exact An _
theorem Rs.K9{s:Rs}(h:(s.num B).1.k≠0):(s.num B).2=0:=by
 have key:∀(l:List UInt8) (i x:Nat),(Cp i x l).2.2≠0→(Cp i x l).1=0:=by
  intro l;induction l with
  | nil=>intro i x h;rfl
  | cons c l ih=>
   intro i x h;unfold Cp at h ⊢;split
   ·rfl
   ·rename_i h1
    rw[Ak h1] at h;split
    ·rfl
    ·rename_i h2
     rw[Ak h2] at h;split
     ·rename_i h3
      rw[Ai h3] at h;simp at h
     ·rename_i h3
      rw[Ak h3] at h;exact ih _ _ h
 unfold Rs.num at*;split
 ·rename_i h0
  rw[Ai h0] at h;exact key _ _ _ h
 ·rfl
theorem Kq:∀(l:List UInt8) (i x:Nat),i≤9→x<128^i→(Cp i x l).1<18446744073709551616
 | [],i,x,_,_=>by simp[Cp]
 | c::l,i,x,hi,hx=>by
  unfold Cp;have hc:=c.toNat_lt;split
  ·simp
  ·rename_i h9
   split
   ·simp
   ·split
    ·rename_i h3
     dsimp only;by_cases h:i=9
     ·subst h
      have:c.toNat≤1:=zD;have h1:c.toNat*128^9≤1*128^9:=CE _ this;have h2:(128:Nat)^9=9223372036854775808:=zO;rw[h2] at*;omega
     ·have h1:c.toNat*128^i≤127*128^i:=CE _ zD
      have h2:(128:Nat)^i≤128^8:=F6 zD zD;have h3:(128:Nat)^8=72057594037927936:=zO;rw[h3] at h2;omega
    ·rename_i h3
     have h9':i≠9:=fun e=>h9 ⟨e,zD⟩;refine Kq l (i+1) _ zD ?_;have h1:c.toNat%128*128^i≤127*128^i:=CE _ zD;rw[Ff];omega
theorem Rs.DL{s:Rs}:(s.num B).2<18446744073709551616:=by
 unfold Rs.num;split
 ·exact Kq _ 0 0 zD zN
 ·simp
end Go.Proofs.YtfddhafbhceoaaaGreat
namespace Go.Bs
open Go.RowKit
def Le(J:Nat→Act→World→Prop)(Q:Exit→Act→World→Prop):Exit→Act→World→Prop
 | .goto l,a,w=>J l a w
 | e,a,w=>Q e a w
section
variable {P:Program} {a:Act} {w:World} {Q:Exit→Act→World→Prop}
theorem Kb{c:Code}(J:Nat→Act→World→Prop)(μ:Nat→Act→World→Nat)
 (pass:∀l a w,J l a w→∃rest,findLabel c l=some rest∧rest.wp P (Le (fun l' a' w'=>J l' a' w'∧μ l' a' w'<μ l a w) Q) a w)
 (first:c.wp P (Le J Q) a w):(Code.scope c).wp P Q a w:=by
 intro b k cs;have hg:∀{l rest},findLabel c l=some rest→gotoIn l (.inScope c::k)=some (.code rest:: .inScope c::k):=fun hf=>by simp[gotoIn,hf]
 have key:∀n l a w rest,findLabel c l=some rest→μ l a w=n→J l a w→∃e a' w',Q e a' w'∧Arrives P (lone (b.at a (.code rest:: .inScope c::k)) cs w) b k cs e a' w':=by
  intro n;induction n using Nat.strongRecOn with
  | _ n ih=>
   intro l a w rest hf hn hJ;obtain⟨rest',hf',hp⟩:=pass l a w hJ;obtain rfl:rest'=rest:=A7 (hf'.symm.trans hf);obtain⟨e,a₁,w₁,hq,harr⟩:=hp b (.inScope c::k) cs;cases e with
   | normal=>exact ⟨.normal,a₁,w₁,hq,Steps.trans harr (.one step_inScope)⟩
   | exit id=>exact ⟨.exit id,a₁,w₁,hq,fun k' hk=>harr k' (by simp[exitTo,hk])⟩
   | goto l'=>
    obtain⟨hJ',hlt⟩:=hq;obtain⟨rest2,hf2,_⟩:=pass l' a₁ w₁ hJ';obtain⟨e₂,a₂,w₂,hq₂,harr₂⟩:=ih _ zD l' a₁ w₁ rest2 hf2 rfl hJ';exact⟨e₂,a₂,w₂,hq₂,.of_steps (harr _ (hg hf2)) harr₂⟩
   | ret=>exact ⟨_,a₁,w₁,hq,harr⟩
   | panic ch=>exact ⟨_,a₁,w₁,hq,harr⟩
   | outgrown=>exact ⟨_,a₁,w₁,hq,harr⟩
 obtain⟨e,a₁,w₁,hq,harr⟩:=first b (.inScope c::k) cs
 cases e with
 | normal=>exact ⟨.normal,a₁,w₁,hq,.head step_scope (Steps.trans harr (.one step_inScope))⟩
 | exit id=>exact ⟨.exit id,a₁,w₁,hq,fun k' hk=> .head step_scope (harr k' (by simp[exitTo,hk]))⟩
 | goto l'=>
  obtain⟨rest2,hf2,_⟩:=pass l' a₁ w₁ hq;obtain⟨e₂,a₂,w₂,hq₂,harr₂⟩:=key _ l' a₁ w₁ rest2 hf2 rfl hq;exact⟨e₂,a₂,w₂,hq₂,.of_steps (.head step_scope (harr _ (hg hf2))) harr₂⟩
 | ret=>exact ⟨_,a₁,w₁,hq,.of_steps (.one step_scope) harr⟩
 | panic ch=>exact ⟨_,a₁,w₁,hq,.of_steps (.one step_scope) harr⟩
 | outgrown=>exact ⟨_,a₁,w₁,hq,.of_steps (.one step_scope) harr⟩
theorem Ia{c:Code}(h:c.wp P Q a w):(Code.skip.seq c).wp P Q a w:=wp_seq (wp_skip h)
theorem Nn{c rest:Code}(l:Nat)(J:Act→World→Prop)(μ:Act→World→Nat)(hf:findLabel c l=some (Code.skip.seq rest))
 (pass:∀a w,J a w→rest.wp P (Exit.jump l (fun a' w'=>J a' w'∧μ a' w'<μ a w) Q) a w)
 (first:∀K:Exit→Act→World→Prop,(∀a w,J a w→rest.wp P K a w)→c.wp P K a w):(Code.scope c).wp P Q a w:=
 wp_scope_jumps l J μ hf (first _ fun a w h=>wp_mono (pass a w h) fun e a' w' hq=>by
  cases e<;>first | exact hq | exact⟨hq.1,hq.2.1⟩) fun a w h=>Ia (pass a w h)
theorem Qm{c rest rest2:Code}(l m:Nat)(hlm:l≠m)(J J2:Act→World→Prop)(μ:Act→World→Nat)(hf:findLabel c l=some (Code.skip.seq rest))(hf2:findLabel c m=some (Code.skip.seq rest2))
 (pass:∀a w,J a w→rest.wp P (Le (fun l' a' w'=>(l'=l∧J a' w'∧μ a' w'<μ a w)∨(l'=m∧J2 a' w')) Q) a w)
 (last:∀a w,J2 a w→rest2.wp P (Le (fun _ _ _=>False) Q) a w)
 (first:∀K:Exit→Act→World→Prop,(∀a w,J a w→rest.wp P K a w)→c.wp P K a w):(Code.scope c).wp P Q a w:=by
 refine Kb (fun l' a w=>(l'=l∧J a w)∨(l'=m∧J2 a w)) (fun l' a w=>if l'=l then μ a w+1 else 0) ?_ ?_
 ·rintro l' a w (⟨rfl,h⟩ | ⟨rfl,h⟩)
  ·refine⟨_,hf,Ia (wp_mono (pass a w h) fun e a' w' hq=> ?_)⟩
   cases e<;>first | exact hq | skip
   rcases hq with ⟨rfl,h1,h2⟩ | ⟨rfl,h1⟩
   ·exact⟨.inl ⟨rfl,h1⟩,zH⟩
   ·exact⟨.inr ⟨rfl,h1⟩,by simp[Ne.symm hlm]⟩
  ·refine⟨_,hf2,Ia (wp_mono (last a w h) fun e a' w' hq=> ?_)⟩
   cases e<;>first | exact hq | exact hq.elim
 ·refine first _ fun a w h=>wp_mono (pass a w h) fun e a' w' hq=> ?_
  cases e<;>first | exact hq | skip
  rcases hq with ⟨rfl,h1,_⟩ | ⟨rfl,h1⟩
  ·exact .inl ⟨rfl,h1⟩
  ·exact .inr ⟨rfl,h1⟩
end
end Go.Bs
namespace Go.Proofs.YtfddhafbhceoaaaGreat
open Go.RowKit Go.Bs Go.Maps
variable{B b l:List UInt8}{L c g hi i lo n off sz:Nat}{S:Nat → Prop}{a:Option Addr}{t:TypeId}{v v0 v1 v2 v3:Value}{w:World}
def Ta(L p i:Nat)(r:Nat × Nat × Int):Rs × Nat:=(⟨p+r.2.1-i,r.2.2,if r.2.2=0 then 0 else if r.2.2=1 then L else ((p+r.2.1-i:Nat):Int)-1⟩,r.1)
def vgo(B:List UInt8)(i X:Nat)(s:Rs):Rs × Nat:=if s.k=0 then Ta B.length s.p i (Cp i X (B.drop s.p)) else (s,0)
theorem Aaj(B:List UInt8)(s:Rs):vgo B 0 0 s=s.num B:=by
 unfold vgo Rs.num Ta;simp
theorem LD(i x:Nat)(c:UInt8)(l:List UInt8):Cp i x (c::l)=if i=9∧1<c.toNat then (0,i+1,5) else if 0<i∧c.toNat=0 then (0,i+1,4) else if c.toNat<128 then (x+c.toNat*128^i,i+1,0) else Cp (i+1) (x+c.toNat%128*128^i) l:=by rw[Cp]
theorem Xc{s:Rs}(hs:s.ok B.length)(i X:Nat):vgo B i X s=
  if (s.byte B).1.k=0 then
   (if i=9∧1<(s.byte B).2.toNat then ((s.byte B).1.fail 5 ((s.byte B).1.p-1),0)
   else if 0<i∧(s.byte B).2.toNat=0 then ((s.byte B).1.fail 4 ((s.byte B).1.p-1),0)
   else if (s.byte B).2.toNat<128 then ((s.byte B).1,X+(s.byte B).2.toNat*128^i)
   else vgo B (i+1) (X+(s.byte B).2.toNat%128*128^i) (s.byte B).1)
  else ((s.byte B).1,0):=by
 have hle:=hs.le;unfold Rs.byte;by_cases h0:s.k=0
 ·by_cases h1:s.p<B.length
  ·have e:s.skip B.length 1=(true,⟨s.p+1,0,0⟩):=by
    unfold Rs.skip;rw[Ai h0,Ak zD,Ak zD];simp
   rw[e];have hd:B.drop s.p=B.getD s.p 0::B.drop (s.p+1):=by
    rw[AS h1];simp[h1]
   simp only[Fx];unfold vgo;rw[Ai h0,hd,LD];have hu:=(G9 (B.drop (s.p+1)) (i+1) (X+(B.getD s.p 0).toNat%128*128^i)).2.1;have e1:s.p+(i+1)-i=s.p+1:=zD;split
   ·simp[Ta,Rs.fail,e1]
   ·split
    ·simp[Ta,Rs.fail,e1]
    ·split
     ·simp[Ta,e1]
     ·generalize Cp (i+1) (X+(B.getD s.p 0).toNat%128*128^i) (B.drop (s.p+1))=r at*
      simp only[Fx,Ta];rw[show s.p+r.2.1-i=s.p+1+r.2.1-(i+1) by omega]
  ·have e:s.skip B.length 1=(false,⟨s.p,1,B.length⟩):=by
    unfold Rs.skip;rw[Ai h0,Ak zD,Ai zD]
   rw[e];have hd:B.drop s.p=[]:=List.drop_eq_nil_of_le zD;unfold vgo;rw[Ai h0,hd];simp[Cp,Ta]
 ·have e:s.skip B.length 1=(false,s):=by unfold Rs.skip;rw[Ak h0]
  rw[e];unfold vgo;rw[Ak h0];simp[h0]
theorem Ye{X m:Nat}(hX:X<128^i)(hx:X<18446744073709551616)(hm:m*128^i<18446744073709551616):bits .or .u64 (X:Int) ((m*128^i:Nat):Int)=((X+m*128^i:Nat):Int):=by
 rw[bits_or_u64_nat _ _ hx hm];have h1:(128:Nat)^i=2^(7*i):=by rw[Nat.pow_mul]
 rw[h1] at hX ⊢;rw[Nat.or_comm,←Nat.shiftLeft_eq,←Nat.shiftLeft_add_eq_or_of_lt hX,Nat.add_comm]
theorem JS{X:Nat}(hX:X<128^i)(hx:X<18446744073709551616)(hm:c%128*128^i<18446744073709551616):bits .or .u64 (X:Int) (IntKind.u64.wrap ((c:Int)%128*2^(7*i)))=((X+c%128*128^i:Nat):Int):=by
 have e:(c:Int)%128*2^(7*i)=((c%128*128^i:Nat):Int):=by
  rw[show (128:Nat)^i=2^(7*i) by rw[Nat.pow_mul]];simp
 rw[e,Jn,Int.emod_eq_of_lt zD zD];exact Ye hX hx hm
theorem Uy{X:Nat}(hX:X<128^i):X+c%128*128^i<128^(i+1):=by
 have h1:c%128*128^i≤127*128^i:=CE _ zD;rw[Ff];omega
theorem FD{X:Nat}(hi:i≤9)(hX:X<128^i)(h:i=9→c≤1):c%128*128^i<18446744073709551616∧X<18446744073709551616:=by
 by_cases h9:i=9
 ·subst h9
  have h1:(128:Nat)^9=9223372036854775808:=zO;rw[h1] at*;have:=h rfl;have h2:c%128*9223372036854775808≤1*9223372036854775808:=CE _ zD;omega
 ·have h1:(128:Nat)^i≤128^8:=F6 zD zD
  have h3:(128:Nat)^8=72057594037927936:=zO;have h2:c%128*128^i≤127*128^i:=CE _ zD;omega
theorem OD{s:Rs}{q:Nat}(hp:s.p=q)(h:(s.byte B).1.k=0):(s.byte B).1.p=q+1:=by
 have h':(s.skip B.length 1).2.k=0:=h;cases hk:(s.skip B.length 1).1
 ·exact absurd h' (Rs.IT hk).1
 ·have:=(Rs.FG hk).2.2.2
  show (s.skip B.length 1).2.p=_
  rw[this,hp];rfl
theorem Da(w:World){g:Nat}{B:List UInt8}{a:Option Addr}{s:Rs}(h:A6 w g B a s)(hB:B.length≤1000000000000):Calls Tryz.prog 174 #[.pointer (some ⟨g,0,none⟩)] w fun r w'=>r=.returned (.int .u64 ((s.num B).2:Int))∧AG w g B a (s.num B).1 w':=by
 have HH:=hid h;have HA:=hid (Cv w h);have hpL:=h.ok.le;clear h;go_enter Tryz.func174,Tryz.ntmps174;go_wp2;refine Nn 0 (fun a' W=>∃(i X:Nat) (s':Rs) (rest:Hid (vgo B i X s'=s.num B)) (u1 u4 u7 u8 u9 u10 u11 u12 u13 u14 u15 u16 u17 u18 u19 u20 u21 u22 u23 u24 u25 u26 u27 u28 u29 u30 u31 u32 u33 u34 u35 u36 u37 u38 u39 u40 u41 u42 u43 u44 u45 u46 u47 u48 u49 u50 u51 u52 u53:Value),AG w g B a s' W∧s'.p=s.p+i∧i≤9∧X<128^i∧a'={tmps:=#[.pointer (some ⟨g,0,none⟩),u1,.int .u64 0,.int .u64 (X:Int),u4,.int .i64 (7*(i:Int)),.int .i64 (s.p:Int),u7,u8,u9,u10,u11,u12,u13,u14,u15,u16,u17,u18,u19,u20,u21,u22,u23,u24,u25,u26,u27,u28,u29,u30,u31,u32,u33,u34,u35,u36,u37,u38,u39,u40,u41,u42,u43,u44,u45,u46,u47,u48,u49,u50,u51,u52,u53],defers:=[]}) (fun a' _=>70-(intOf (a'.tmps.getD 5 undef)).toNat) rfl ?_ ?_
 ·rintro a' W ⟨i,X,s',hrest,u1,u4,u7,u8,u9,u10,u11,u12,u13,u14,u15,u16,u17,u18,u19,u20,u21,u22,u23,u24,u25,u26,u27,u28,u29,u30,u31,u32,u33,u34,u35,u36,u37,u38,u39,u40,u41,u42,u43,u44,u45,u46,u47,u48,u49,u50,u51,u52,u53,hst,hp,hi,hX,rfl⟩
  have hk:=hst.1;have hB1:=hid (Nd W hk);have hvs:=hid (Xc hk.ok i X);have hbok:=Rs.Iq hk.ok;have HBP:Hid ((s'.byte B).1.k=0→(s'.byte B).1.p=s.p+i+1):=hid (OD hp);rw[hrest.out] at hvs;clear hrest;generalize s'.byte B=b at*;obtain⟨b1,c⟩:=b;dsimp only at hB1 hvs hbok;go_wp2_with fail;refine hB1.out.mono ?_;rintro r w1 ⟨rfl,hst1⟩;have hstW:=hst;by_cases hbk:b1.k=0
  ·have hG:=AL w1 hst1.1
   rw[Ad hbk] at hG;have HG:=hid hG;have HK:=hid hbk;have hc:=c.toNat_lt;have hbge:1≤b1.p:=by have:=HBP.out hbk;omega
   have hpl:=hbok.le;clear hG hbk;go_wp2_with fail;refine HG.out.mono ?_;rintro r w2 ⟨rfl,hb2⟩;by_cases h9:i=9
   ·have d1:((7*(i:Int))==63)=true:=by rw[h9];rfl
    by_cases hc1:1<c.toNat
    ·have d2:decide ((1:Int)<(c.toNat:Int))=true:=Ad zD
     have HF:=hid (BP w2 (hst1.1.later hb2) 5 ((b1.p:Int)-1) zD);have HAT:=hid (Cv w2 (hst1.1.later hb2));replace hvs:=hvs.out;rw[Ai HK.out,Ai ⟨h9,hc1⟩] at hvs;have HN:=hid hvs;clear hvs
     (try clear h9);(try clear hc0);(try clear hc1);(try clear hi0);(try clear hc7)
     have HST1:=hid hst1;clear hst1 hst hk hbok;go_wp2_with fail;refine HAT.out.mono ?_;rintro r w2' ⟨rfl,rfl⟩;go_wp2_with fail;refine HF.out.mono ?_;rintro r w3 ⟨rfl,hst3⟩;have HST3:=hid (AG.trans HST1.out.2 (AG.trans (Tch.Cx (F:=(·=g)) hb2) hst3));have HSTW:=hid hstW;clear hst3 hstW;go_wp2;simp only[Exit.jump];go_ret;rw[HN.out];exact⟨rfl,AG.trans HSTW.out.2 HST3.out⟩
    ·have d2:decide ((1:Int)<(c.toNat:Int))=false:=Ae zD
     have d5:decide ((128:Int)≤(c.toNat:Int))=false:=Ae zD;by_cases hc0:c.toNat=0
     ·have d3:((c.toNat:Int)==0)=true:=by rw[hc0];rfl
      have d4:decide ((s.p:Int)<(b1.p:Int)-1)=true:=Ad zB8;have HF:=hid (BP w2 (hst1.1.later hb2) 4 ((b1.p:Int)-1) zD);have HAT:=hid (Cv w2 (hst1.1.later hb2));replace hvs:=hvs.out;rw[Ai HK.out,Ak (fun e=>hc1 e.2),Ai ⟨zD,hc0⟩] at hvs;have HN:=hid hvs;clear hvs
      (try clear h9);(try clear hc0);(try clear hc1);(try clear hi0);(try clear hc7)
      have HST1:=hid hst1;clear hst1 hst hk hbok;go_wp2_with fail;refine HAT.out.mono ?_;rintro r w2' ⟨rfl,rfl⟩;go_wp2_with fail;refine HAT.out.mono ?_;rintro r w2' ⟨rfl,rfl⟩;go_wp2_with fail;refine HF.out.mono ?_;rintro r w3 ⟨rfl,hst3⟩;have HST3:=hid (AG.trans HST1.out.2 (AG.trans (Tch.Cx (F:=(·=g)) hb2) hst3));have HSTW:=hid hstW;clear hst3 hstW;go_wp2;simp only[Exit.jump];go_ret;rw[HN.out];exact⟨rfl,AG.trans HSTW.out.2 HST3.out⟩
     ·have d3:((c.toNat:Int)==0)=false:=by simp[hc0]
      have HAT:=hid (Cv w2 (hst1.1.later hb2));replace hvs:=hvs.out;rw[Ai HK.out,Ak (fun e=>hc1 e.2),Ak (fun e=>hc0 e.2),Ai zD] at hvs;have HN:=hid hvs;clear hvs;have HC7:Hid (c.toNat%128=c.toNat):=hid (Eu zD);have HSTW:=hid hstW;have hmul:c.toNat%128*128^i<18446744073709551616∧X<18446744073709551616:=FD hi hX zD;have E1:=hid (JS (c:=c.toNat) hX hmul.2 hmul.1);clear hmul;clear hstW;(try clear h9);(try clear hc0);(try clear hc1);(try clear hi0);(try clear hc7);have HST1:=hid hst1;clear hst1 hst hk hbok;go_wp2_with fail;go_wp2;simp only[Exit.jump];go_ret;rw[HN.out];refine⟨?_,AG.trans HSTW.out.2 (HST1.out.then hb2)⟩;show Ending.returned (Value.int .u64 _)=_
      rw[E1.out,HC7.out]
   ·have d1:((7*(i:Int))==63)=false:=by rw[BW];omega
    by_cases hc0:c.toNat=0
    ·have d3:((c.toNat:Int)==0)=true:=by rw[hc0];rfl
     by_cases hi0:0<i
     ·have d4:decide ((s.p:Int)<(b1.p:Int)-1)=true:=Ad zB8
      have HF:=hid (BP w2 (hst1.1.later hb2) 4 ((b1.p:Int)-1) zD);have HAT:=hid (Cv w2 (hst1.1.later hb2));replace hvs:=hvs.out;rw[Ai HK.out,Ak (fun e=>h9 e.1),Ai ⟨hi0,hc0⟩] at hvs;have HN:=hid hvs;clear hvs
      (try clear h9);(try clear hc0);(try clear hc1);(try clear hi0);(try clear hc7)
      have HST1:=hid hst1;clear hst1 hst hk hbok;go_wp2_with fail;refine HAT.out.mono ?_;rintro r w2' ⟨rfl,rfl⟩;go_wp2_with fail;refine HAT.out.mono ?_;rintro r w2' ⟨rfl,rfl⟩;go_wp2_with fail;refine HF.out.mono ?_;rintro r w3 ⟨rfl,hst3⟩;have HST3:=hid (AG.trans HST1.out.2 (AG.trans (Tch.Cx (F:=(·=g)) hb2) hst3));have HSTW:=hid hstW;clear hst3 hstW;go_wp2;simp only[Exit.jump];go_ret;rw[HN.out];exact⟨rfl,AG.trans HSTW.out.2 HST3.out⟩
     ·have d4:decide ((s.p:Int)<(b1.p:Int)-1)=false:=Ae zB8
      have d5:decide ((128:Int)≤(c.toNat:Int))=false:=Ae zD;have HAT:=hid (Cv w2 (hst1.1.later hb2));replace hvs:=hvs.out;rw[Ai HK.out,Ak (fun e=>h9 e.1),Ak (fun e=>hi0 e.1),Ai zD] at hvs;have HN:=hid hvs;clear hvs;have HC7:Hid (c.toNat%128=c.toNat):=hid (Eu zD);have HSTW:=hid hstW;have hmul:c.toNat%128*128^i<18446744073709551616∧X<18446744073709551616:=FD hi hX zD;have E1:=hid (JS (c:=c.toNat) hX hmul.2 hmul.1);clear hmul;clear hstW;(try clear h9);(try clear hc0);(try clear hc1);(try clear hi0);(try clear hc7);have HST1:=hid hst1;clear hst1 hst hk hbok;go_wp2_with fail;refine HAT.out.mono ?_;rintro r w2' ⟨rfl,rfl⟩;go_wp2_with fail;go_wp2;simp only[Exit.jump];go_ret;rw[HN.out];refine⟨?_,AG.trans HSTW.out.2 (HST1.out.then hb2)⟩;show Ending.returned (Value.int .u64 _)=_
      rw[E1.out,HC7.out]
    ·have d3:((c.toNat:Int)==0)=false:=by simp[hc0]
     by_cases hc7:c.toNat<128
     ·have d5:decide ((128:Int)≤(c.toNat:Int))=false:=Ae zD
      have HAT:=hid (Cv w2 (hst1.1.later hb2));replace hvs:=hvs.out;rw[Ai HK.out,Ak (fun e=>h9 e.1),Ak (fun e=>hc0 e.2),Ai hc7] at hvs;have HN:=hid hvs;clear hvs;have HC7:Hid (c.toNat%128=c.toNat):=hid (Eu zD);have HSTW:=hid hstW;have hmul:c.toNat%128*128^i<18446744073709551616∧X<18446744073709551616:=FD hi hX zD;have E1:=hid (JS (c:=c.toNat) hX hmul.2 hmul.1);clear hmul;clear hstW;(try clear h9);(try clear hc0);(try clear hc1);(try clear hi0);(try clear hc7);have HST1:=hid hst1;clear hst1 hst hk hbok;go_wp2_with fail;go_wp2;simp only[Exit.jump];go_ret;rw[HN.out];refine⟨?_,AG.trans HSTW.out.2 (HST1.out.then hb2)⟩;show Ending.returned (Value.int .u64 _)=_
      rw[E1.out,HC7.out]
     ·have d5:decide ((128:Int)≤(c.toNat:Int))=true:=Ad zD
      have HAT:=hid (Cv w2 (hst1.1.later hb2));replace hvs:=hvs.out;rw[Ai HK.out,Ak (fun e=>h9 e.1),Ak (fun e=>hc0 e.2),Ak hc7] at hvs;have HN:=hid hvs;clear hvs;have hi8:i+1≤9:=zD;have HX8:=hid (Uy (c:=c.toNat) hX);have HSTW:=hid hstW;have hmul:c.toNat%128*128^i<18446744073709551616∧X<18446744073709551616:=FD hi hX (fun e=>absurd e h9);have E1:=hid (JS (c:=c.toNat) hX hmul.2 hmul.1);clear hmul;clear hstW;(try clear h9);(try clear hc0);(try clear hc1);(try clear hi0);(try clear hc7);have HST1:=hid hst1;clear hst1 hst hk hbok;go_wp2_with fail;go_step3
      rw[E1.out,show 7*(i:Int)+7=7*((i+1:Nat):Int) by omega];refine⟨rfl,⟨i+1,_,b1,hid HN.out.symm,_,_,_,_,_,_,_,_,_,_,_,_,_,_,_,_,_,_,_,_,_,_,_,_,_,_,_,_,_,_,_,_,_,_,_,_,_,_,_,_,_,_,_,_,_,_,_,_,_,AG.trans HSTW.out.2 (HST1.out.then hb2),HBP.out HK.out,hi8,HX8.out,rfl⟩,?_⟩;simp[intOf];omega
  ·have hG:=AL w1 hst1.1
   rw[Ae hbk] at hG;have HG:=hid hG;replace hvs:=hvs.out;rw[Ak hbk] at hvs;have HN:=hid hvs;clear hvs;have HST1:=hid hst1;have HSTW:=hid hstW;clear hG hbk hst1 hst hk hbok hstW;go_wp2_with fail;refine HG.out.mono ?_;rintro r w2 ⟨rfl,hb2⟩;go_wp2;simp only[Exit.jump];go_ret;rw[HN.out];exact⟨rfl,AG.trans HSTW.out.2 (HST1.out.then hb2)⟩
 ·intro K hK
  go_wp2_with fail;refine HA.out.mono ?_;rintro r w1 ⟨rfl,rfl⟩;go_wp2;go_step3
  rename_i hkk
  exact hkk _ _ (hK _ _ ⟨0,0,s,hid (Aaj B s),_,_,_,_,_,_,_,_,_,_,_,_,_,_,_,_,_,_,_,_,_,_,_,_,_,_,_,_,_,_,_,_,_,_,_,_,_,_,_,_,_,_,_,_,_,_,_,_,_,AG.refl HH.out,zD,zD,zN,rfl⟩)
def Rs.most(B:List UInt8)(s:Rs)(m:Nat):Rs × Nat:=if m<(s.num B).2 then ((s.num B).1.fail 2 s.p,0) else s.num B
def Rs.int(B:List UInt8)(s:Rs)(m:Int):Rs × Nat:=if 0≤m then s.most B m.toNat else ((s.num B).1.fail 2 s.p,0)
def Rs.head(B:List UInt8)(s:Rs):Rs × Bool × Nat:=
 if (s.num B).1.k=0 then
  (if (s.num B).2%2=1 then (if 1048572<(s.num B).2/2 then ((s.num B).1.fail 2 s.p,false,0) else ((s.num B).1,true,(s.num B).2/2+4))
  else (if 1048575<(s.num B).2/2 then ((s.num B).1.fail 2 s.p,false,0) else ((s.num B).1,false,(s.num B).2/2+1)))
 else ((s.num B).1,false,0)
def Rs.offset(B:List UInt8)(s:Rs):Rs × Nat:=
 let t:=if 65536≤(s.num B).2 then (s.num B).1.fail 10 s.p else (s.num B).1
 (t,if t.k=0 then (s.num B).2+1 else 0)
theorem Rs.QP{s:Rs}(h:s.ok B.length){m:Nat}:(s.most B m).1.ok B.length:=by
 unfold Rs.most;split
 ·exact Rs.Co (Rs.Dn h) zD
 ·exact Rs.Dn h
theorem Rs.FU{s:Rs}(h:s.ok B.length){m:Int}:(s.int B m).1.ok B.length:=by
 unfold Rs.int;split
 ·exact Rs.QP h
 ·exact Rs.Co (Rs.Dn h) zD
theorem Rs.Jf{s:Rs}(h:s.ok B.length):(s.head B).1.ok B.length:=by
 unfold Rs.head;split
 ·split
  ·split
   ·exact Rs.Co (Rs.Dn h) zD
   ·exact Rs.Dn h
  ·split
   ·exact Rs.Co (Rs.Dn h) zD
   ·exact Rs.Dn h
 ·exact Rs.Dn h
theorem Rs.LQ{s:Rs}(h:s.ok B.length):(s.offset B).1.ok B.length:=by
 unfold Rs.offset;dsimp only;split
 ·exact Rs.Co (Rs.Dn h) zD
 ·exact Rs.Dn h
theorem Rs.JH{s:Rs}{m:Int}:(s.int B m).2≤m.toNat:=by
 unfold Rs.int Rs.most;split
 ·split
  ·simp
  ·omega
 ·simp
theorem Mn(w:World){g:Nat}{B:List UInt8}{a:Option Addr}{s:Rs}(h:A6 w g B a s)(hB:B.length≤1000000000000)(m:Nat):Calls Tryz.prog 172 #[.pointer (some ⟨g,0,none⟩),.int .u64 (m:Int)] w fun r w'=>r=.returned (.int .u64 ((s.most B m).2:Int))∧AG w g B a (s.most B m).1 w':=by
 have HA:=hid (Cv w h);have HN:=hid (Da w h hB);unfold Rs.most;generalize s.num B=N at*;obtain⟨s1,x⟩:=N;dsimp only at*;clear h;by_cases hm:m<x
 ·have d1:decide (m<x)=true:=Ad hm
  have d1':decide ((m:Int)<(x:Int))=true:=Ad zD;rw[Ai hm];clear hm;go_enter Tryz.func172,Tryz.ntmps172;go_wp2_with fail;refine HA.out.mono ?_;rintro r w' ⟨rfl,rfl⟩;go_wp2_with fail;refine HN.out.mono ?_;rintro r w1 ⟨rfl,hst⟩;have HF:=hid (BP w1 hst.1 2 s.p zD);have HST:=hid hst;clear hst;go_wp2_with fail;refine HF.out.mono ?_;rintro r w2 ⟨rfl,hst2⟩;have HST2:=hid hst2;clear hst2;go_wp2;go_ret;exact⟨rfl,AG.trans HST.out.2 HST2.out⟩
 ·have d1:decide (m<x)=false:=Ae hm
  have d1':decide ((m:Int)<(x:Int))=false:=Ae zD;rw[Ak hm];clear hm;go_enter Tryz.func172,Tryz.ntmps172;go_wp2_with fail;refine HA.out.mono ?_;rintro r w' ⟨rfl,rfl⟩;go_wp2_with fail;refine HN.out.mono ?_;rintro r w1 ⟨rfl,hst⟩;have HST:=hid hst;clear hst;go_wp2;go_ret;exact⟨rfl,HST.out⟩
theorem Ef(w:World){g:Nat}{B:List UInt8}{a:Option Addr}{s:Rs}(h:A6 w g B a s)(hB:B.length≤1000000000000)(m:Int)(hm: -9223372036854775808≤m∧m≤9223372036854775807):Calls Tryz.prog 110 #[.pointer (some ⟨g,0,none⟩),.int .i64 m] w fun r w'=>r=.returned (.int .i64 ((s.int B m).2:Int))∧AG w g B a (s.int B m).1 w':=by
 by_cases h0:0≤m
 ·obtain⟨n,rfl⟩:∃n:Nat,m=n:=⟨m.toNat,zD⟩
  have HM:=hid (Mn w h hB n);have hle:(s.int B n).2≤9223372036854775807:=zB7;have e:s.int B n=s.most B n:=by unfold Rs.int;rw[Ai h0];rfl
  rw[e] at hle ⊢;have d1:decide ((0:Int)≤(n:Int))=true:=Ad h0;generalize s.most B n=N at*;obtain⟨s1,x⟩:=N;dsimp only at*;clear h e;go_enter Tryz.func110,Tryz.ntmps110;go_wp2_with fail;refine HM.out.mono ?_;rintro r w1 ⟨rfl,hst⟩;have HST:=hid hst;clear hst;go_wp2;go_ret;exact⟨rfl,HST.out⟩
 ·have HA:=hid (Cv w h)
  have HN:=hid (Da w h hB);have e:s.int B m=((s.num B).1.fail 2 s.p,0):=by unfold Rs.int;rw[Ak h0]
  rw[e];have d1:decide ((0:Int)≤m)=false:=Ae h0;generalize s.num B=N at*;obtain⟨s1,x⟩:=N;dsimp only at*;clear h e h0;go_enter Tryz.func110,Tryz.ntmps110;go_wp2_with fail;refine HA.out.mono ?_;rintro r w' ⟨rfl,rfl⟩;go_wp2_with fail;refine HN.out.mono ?_;rintro r w1 ⟨rfl,hst⟩;have HF:=hid (BP w1 hst.1 2 s.p zD);have HST:=hid hst;clear hst;go_wp2_with fail;refine HF.out.mono ?_;rintro r w2 ⟨rfl,hst2⟩;have HST2:=hid hst2;clear hst2;go_wp2;go_ret;exact⟨rfl,AG.trans HST.out.2 HST2.out⟩
theorem Tf(w:World){B:List UInt8}{s:Rs}(h:A6 w g B a s)(hB:B.length≤1000000000000):Calls Tryz.prog 329 #[.pointer (some ⟨g,0,none⟩)] w fun r w'=>r=.returned (.tuple #[.bool (s.head B).2.1,.int .i64 ((s.head B).2.2:Int)])∧AG w g B a (s.head B).1 w':=by
 have HA:=hid (Cv w h);have HN:=hid (Da w h hB);have hsm:=Rs.DL (B:=B) (s:=s);unfold Rs.head;generalize s.num B=N at*;obtain⟨s1,x⟩:=N;dsimp only at*;clear h;by_cases hk:s1.k=0
 ·rw[Ai hk]
  by_cases h2:x%2=1
  ·have d2:(((x:Int)%2)==1)=true:=by rw[beq_iff_eq];omega
   rw[Ai h2];by_cases hl:1048572<x/2
   ·have d3:decide ((1048572:Int)<(x:Int)/2)=true:=Ad zD
    rw[Ai hl];have dk:decide (s1.k=0)=true:=Ad hk;clear hk h2 hl;go_enter Tryz.func329,Tryz.ntmps329;go_wp2_with fail;refine HA.out.mono ?_;rintro r w' ⟨rfl,rfl⟩;go_wp2_with fail;refine HN.out.mono ?_;rintro r w1 ⟨rfl,hst⟩;have HG:=hid (AL w1 hst.1);rw[dk] at HG;have HST:=hid hst;clear hst dk;go_wp2_with fail;refine HG.out.mono ?_;rintro r w2 ⟨rfl,hb2⟩;have HF:=hid (BP w2 (HST.out.1.later hb2) 2 s.p zD);go_wp2_with fail;refine HF.out.mono ?_;rintro r w3 ⟨rfl,hst3⟩;have HST3:=hid hst3;clear hst3;go_wp2;go_ret2
    exact⟨rfl,AG.trans (HST.out.then hb2).2 HST3.out⟩
   ·have d3:decide ((1048572:Int)<(x:Int)/2)=false:=Ae zD
    rw[Ak hl];have dk:decide (s1.k=0)=true:=Ad hk;clear hk h2;go_enter Tryz.func329,Tryz.ntmps329;go_wp2_with fail;refine HA.out.mono ?_;rintro r w' ⟨rfl,rfl⟩;go_wp2_with fail;refine HN.out.mono ?_;rintro r w1 ⟨rfl,hst⟩;have HG:=hid (AL w1 hst.1);rw[dk] at HG;have HST:=hid hst;clear hst dk;go_wp2_with fail;refine HG.out.mono ?_;rintro r w2 ⟨rfl,hb2⟩;go_wp2;go_ret2
    exact⟨zN,HST.out.then hb2⟩
  ·have d2:(((x:Int)%2)==1)=false:=by rw[BW];omega
   rw[Ak h2];by_cases hl:1048575<x/2
   ·have d3:decide ((1048575:Int)<(x:Int)/2)=true:=Ad zD
    rw[Ai hl];have dk:decide (s1.k=0)=true:=Ad hk;clear hk h2 hl;go_enter Tryz.func329,Tryz.ntmps329;go_wp2_with fail;refine HA.out.mono ?_;rintro r w' ⟨rfl,rfl⟩;go_wp2_with fail;refine HN.out.mono ?_;rintro r w1 ⟨rfl,hst⟩;have HG:=hid (AL w1 hst.1);rw[dk] at HG;have HST:=hid hst;clear hst dk;go_wp2_with fail;refine HG.out.mono ?_;rintro r w2 ⟨rfl,hb2⟩;have HF:=hid (BP w2 (HST.out.1.later hb2) 2 s.p zD);go_wp2_with fail;refine HF.out.mono ?_;rintro r w3 ⟨rfl,hst3⟩;have HST3:=hid hst3;clear hst3;go_wp2;go_ret2
    exact⟨rfl,AG.trans (HST.out.then hb2).2 HST3.out⟩
   ·have d3:decide ((1048575:Int)<(x:Int)/2)=false:=Ae zD
    rw[Ak hl];have dk:decide (s1.k=0)=true:=Ad hk;clear hk h2;go_enter Tryz.func329,Tryz.ntmps329;go_wp2_with fail;refine HA.out.mono ?_;rintro r w' ⟨rfl,rfl⟩;go_wp2_with fail;refine HN.out.mono ?_;rintro r w1 ⟨rfl,hst⟩;have HG:=hid (AL w1 hst.1);rw[dk] at HG;have HST:=hid hst;clear hst dk;go_wp2_with fail;refine HG.out.mono ?_;rintro r w2 ⟨rfl,hb2⟩;go_wp2;go_ret2
    exact⟨zN,HST.out.then hb2⟩
 ·rw[Ak hk]
  have dk:decide (s1.k=0)=false:=Ae hk;clear hk;go_enter Tryz.func329,Tryz.ntmps329;go_wp2_with fail;refine HA.out.mono ?_;rintro r w' ⟨rfl,rfl⟩;go_wp2_with fail;refine HN.out.mono ?_;rintro r w1 ⟨rfl,hst⟩;have HG:=hid (AL w1 hst.1);rw[dk] at HG;have HST:=hid hst;clear hst dk;go_wp2_with fail;refine HG.out.mono ?_;rintro r w2 ⟨rfl,hb2⟩;go_wp2;go_ret2
  exact⟨rfl,HST.out.then hb2⟩
theorem Qo(w:World){g:Nat}{B:List UInt8}{a:Option Addr}{s:Rs}(h:A6 w g B a s)(hB:B.length≤1000000000000):Calls Tryz.prog 330 #[.pointer (some ⟨g,0,none⟩)] w fun r w'=>r=.returned (.int .i64 ((s.offset B).2:Int))∧AG w g B a (s.offset B).1 w':=by
 have HA:=hid (Cv w h);have HN:=hid (Da w h hB);have hsm:=Rs.DL (B:=B) (s:=s);unfold Rs.offset;dsimp only;generalize s.num B=N at*;obtain⟨s1,x⟩:=N;dsimp only at*;clear h;by_cases hl:65536≤x
 ·have d1:decide ((65536:Int)≤(x:Int))=true:=Ad zD
  have hnk:(s1.fail 10 s.p).k≠0:=by unfold Rs.fail;split<;>simp_all
  rw[Ai hl,Ak hnk];have dk:decide ((s1.fail 10 s.p).k=0)=false:=Ae hnk;have HFF:=hid (fun (W:World) (h:A6 W g B a s1)=>BP W h 10 s.p zD);generalize s1.fail 10 s.p=s2 at*;clear hl hnk;go_enter Tryz.func330,Tryz.ntmps330;go_wp2_with fail;refine HA.out.mono ?_;rintro r w' ⟨rfl,rfl⟩;go_wp2_with fail;refine HN.out.mono ?_;rintro r w1 ⟨rfl,hst⟩;have HF:=hid (HFF.out w1 hst.1);have HST:=hid hst;clear hst;go_wp2_with fail;refine HF.out.mono ?_;rintro r w2 ⟨rfl,hst2⟩;have HG:=hid (AL w2 hst2.1);rw[dk] at HG;have HST2:=hid hst2;clear hst2 dk;go_wp2_with fail;refine HG.out.mono ?_;rintro r w3 ⟨rfl,hb3⟩;go_wp2;go_ret;exact⟨rfl,AG.trans HST.out.2 (HST2.out.then hb3)⟩
 ·have d1:decide ((65536:Int)≤(x:Int))=false:=Ae zD
  rw[Ak hl];by_cases hk:s1.k=0
  all_goals
   first | rw[Ai hk] | rw[Ak hk]
   first | have dk:decide (s1.k=0)=true:=Ad hk | have dk:decide (s1.k=0)=false:=Ae hk
   clear hk;go_enter Tryz.func330,Tryz.ntmps330;go_wp2_with fail;refine HA.out.mono ?_;rintro r w' ⟨rfl,rfl⟩;go_wp2_with fail;refine HN.out.mono ?_;rintro r w1 ⟨rfl,hst⟩;have HG:=hid (AL w1 hst.1);rw[dk] at HG;have HST:=hid hst;clear hst dk;go_wp2_with fail;refine HG.out.mono ?_;rintro r w3 ⟨rfl,hb3⟩;go_wp2;go_ret;exact⟨zA7,HST.out.then hb3⟩
def Ed:List UInt8→Nat
 | []=>0
 | c::l=>c.toNat%128+128*Ed l
theorem Qb:∀(l:List UInt8) (c:UInt8),Ed (l++[c])=Ed l+c.toNat%128*128^l.length
 | [],c=>by simp[Ed]
 | d::l,c=>by
  simp only[DY,Ed,Qb l c,AO,Ff];rw[Nat.mul_add,Jl (128^l.length) 128,Nat.mul_left_comm];omega
theorem Vy:∀l:List UInt8,Ed l<128^l.length
 | []=>by simp[Ed]
 | c::l=>by
  have:=Vy l;simp only[Ed,AO,Ff];omega
theorem JW:∀(l:List UInt8) (k:Nat),Ed (l.drop k)≤Ed l
 | [],k=>by simp
 | c::l,0=>by simp
 | c::l,k+1=>by
  have:=JW l k;simp only[List.drop_succ_cons,Ed];omega
theorem Acj{m:Nat}(h:m<l.length):Ed (l.drop m)=l[m].toNat%128+128*Ed (l.drop (m+1)):=by
 rw[AS h];rfl
theorem Qa(h:n<l.length):Ed (l.take (n+1))=Ed (l.take n)+l[n].toNat%128*128^n:=by
 rw[AW h,Qb,M9,Nat.min_eq_left zD]
theorem IG(l:List UInt8)(n:Nat):Ed (l.take n)<128^n:=Aj (Vy _) (F6 zD zH)
theorem Mg{X:Nat}(hi:i≤9)(hX:X<128^i)(h:i=9→c≤1):X+c%128*128^i<18446744073709551616:=by
 by_cases h9:i=9
 ·subst h9
  have h1:(128:Nat)^9=9223372036854775808:=zO;rw[h1] at*;have:=h rfl;have h2:c%128*9223372036854775808≤1*9223372036854775808:=CE _ zD;omega
 ·have h1:(128:Nat)^i≤128^8:=F6 zD zD
  have h3:(128:Nat)^8=72057594037927936:=zO;have h2:c%128*128^i≤127*128^i:=CE _ zD;omega
def M4(L:Nat)(r:Nat × Nat × Int):Nat × Nat × Int × Int:=
 if r.2.2=0 then (r.1,r.2.1,0,0) else if r.2.2=1 then (0,0,1,(L:Int)) else (0,0,r.2.2,(r.2.1:Int)-1)
def Wt(b:List UInt8):Nat × Nat × Int × Int:=M4 b.length (Cp 0 0 b)
theorem Aak(h:n<b.length):Cp n (Ed (b.take n)) (b.drop n)=
  if n=9∧1<b[n].toNat then (0,n+1,5) else if 0<n∧b[n].toNat=0 then (0,n+1,4) else if b[n].toNat<128 then (Ed (b.take n)+b[n].toNat*128^n,n+1,0) else Cp (n+1) (Ed (b.take (n+1))) (b.drop (n+1)):=by
 rw[AS h,LD,Qa h]
theorem V8(w:World)(b:List UInt8)(a:Option Addr)(n c:Nat)(hl:Ah.r (·<w.heap.size) w [.slice a n c] b)(hB:b.length≤1000000000000):
  Calls Tryz.prog 167 #[.slice a n c] w fun r w'=>r=.returned (.tuple #[.int .u64 ((Wt b).1:Int),.int .i64 ((Wt b).2.1:Int),.agg #[.int .i64 (Wt b).2.2.1,.int .i64 (Wt b).2.2.2]])∧Below w.heap.size w w':=by
 obtain⟨rfl,hm,_,_⟩:=AT hl;have HL:=hid hl;clear hl;go_enter Tryz.func167,Tryz.ntmps167;go_wp2_with fail;refine Gs (fun W=>Blk W w.heap.size 65 #[.int .i64 0,.int .i64 0]∧Below w.heap.size w W) ⟨zC,zA⟩ ?_;intro W ⟨hF,hbW⟩;go_loopw [5] (fun i wr=>∃n:Nat,n≤b.length∧n≤9∧i=.int .i64 n∧Hid (Wt b=M4 b.length (Cp n (Ed (b.take n)) (b.drop n)))∧wr=W) (fun i _=>b.length-(intOf i).toNat)
 case atStart=>exact ⟨0,Am _,zD,rfl,hid rfl,rfl⟩
 case round=>
  obtain⟨n,hn,hn9,rfl,hg,rfl⟩:=hrel;rcases Bh n b.length with hlt | hge
  ·obtain⟨ga,oa,hA,hga,hc⟩:=Cs (lift HL.out hbW) hlt
   subst hA;have d0:decide ((n:Int)<(b.length:Int))=true:=Ad zD;have d0':decide (n<b.length)=true:=Ad hlt;have i1:(n:Int)<(b.length:Int):=zD;have hgv:=hg.out;have hvat:=Aak hlt;have hdt:=Qa hlt;generalize b[n]=e at hvat hdt hc;have hc255:=e.toNat_lt;by_cases h9:n=9
   ·have d1:((n:Int)==9)=true:=by rw[h9];rfl
    have d3:decide ((0:Int)<(n:Int))=true:=Ad zD;have d3':decide (0<n)=true:=Ad zD;by_cases hc1:1<e.toNat
    ·have d2:decide ((1:Int)<(e.toNat:Int))=true:=Ad zD
     have d2':decide (1<e.toNat)=true:=Ad zD;rw[hvat,Ai ⟨h9,hc1⟩] at hgv;have HG:=hid hgv;clear hgv hg hvat hdt
     (try clear h9);(try clear hc0);(try clear hc1);(try clear hn0);(try clear hc7)
     go_wp2_with fail;refine (Hj wr 5 n zD).mono ?_;rintro r w1 ⟨rfl,hb1⟩;obtain⟨y0,y1,g0,g1,l1⟩:=B6 (hF.later hb1);have hbw1:=Af hb1 hbW;go_wp2;refine Al (v:=.tuple #[.int .u64 0,.int .i64 0,.agg #[.int .i64 5,.int .i64 n]]) ZD rfl ⟨?_,zA⟩;rw[HG.out];simp[M4]
    ·have d2:decide ((1:Int)<(e.toNat:Int))=false:=Ae zD
     have d2':decide (1<e.toNat)=false:=Ae zD;by_cases hc0:e.toNat=0
     ·have d4:((e.toNat:Int)==0)=true:=by rw[hc0];rfl
      rw[hvat,Ak (fun e=>hc1 e.2),Ai ⟨zD,hc0⟩] at hgv;have HG:=hid hgv;clear hgv hg hvat hdt
      (try clear h9);(try clear hc0);(try clear hc1);(try clear hn0);(try clear hc7)
      go_wp2_with fail;refine (Hj wr 4 n zD).mono ?_;rintro r w1 ⟨rfl,hb1⟩;obtain⟨y0,y1,g0,g1,l1⟩:=B6 (hF.later hb1);have hbw1:=Af hb1 hbW;go_wp2;refine Al (v:=.tuple #[.int .u64 0,.int .i64 0,.agg #[.int .i64 4,.int .i64 n]]) ZD rfl ⟨?_,zA⟩;rw[HG.out];simp[M4]
     ·have d4:((e.toNat:Int)==0)=false:=by rw[BW];omega
      have d5:decide ((e.toNat:Int)<128)=true:=Ad zD;have d5':decide (e.toNat<128)=true:=Ad zD;have hfit:=FD hn9 (IG b n) (c:=e.toNat) (fun _=>zD);have hmod:e.toNat%128=e.toNat:=Eu zD;rw[hvat,Ak (fun e=>hc1 e.2),Ak (fun e=>hc0 e.2),Ai zD] at hgv;have HDT:=hid hdt;have hL:Ed (b.take (n+1))<18446744073709551616:=by
       rw[HDT.out];exact Mg hn9 (IG b n) (fun _=>zD)
      rw[←hmod,←HDT.out] at hgv;have HG:=hid hgv;have hn1:Hid ((b.take (n+1)).length=n+1):=hid zH;have HTK:Hid (∀m,(h:m<n+1)→(b.take (n+1))[m]'(by rw[hn1.out];exact h)=b[m]'zD):=hid (fun m h=>zN);have hd0:Hid (Ed ((b.take (n+1)).drop (n+1))=0):=hid zA0;generalize b.take (n+1)=L at*;clear hgv hg hfit hmod HDT hvat hdt;have H9:=hid h9;have h9n:n≤9∧9≤n:=zD;have d09:decide ((9:Int)<(b.length:Int))=true:=Ad zD;have d09':decide (9<b.length)=true:=Ad zD;have i19:(9:Int)<(b.length:Int):=zD;have hc9:=hc;rw[show oa+n=oa+9 by omega] at hc9
      (try clear h9);(try clear hc0);(try clear hc1);(try clear hn0);(try clear hc7)
      go_wp2_with fail;go_loopw [6,7] (fun x i w2=>∃(k:Nat) (j:Int),k≤n+1∧Hid (j=(k:Int)-1)∧-1≤j∧j≤n∧i=.int .i64 j∧x=.int .u64 ((Ed (L.drop k):Nat):Int)∧w2=wr) (fun _ i _=>(intOf i+1).toNat)
      case atStart=>exact ⟨n+1,n,zD,hid zD,zD,zD,rfl,by rw[hd0.out];rfl,rfl⟩
      case round=>
       obtain⟨k,j,hk,hj,hj1,hj2,rfl,rfl,rfl⟩:=hrel;rcases Cf k with hk0 | hk0
       ·have e1:j=-1:=by have:=hj.out;omega
        subst e1;subst hk0;have e2:Hid (L.drop 0=L):=hid rfl;rw[e2.out];obtain⟨y0,y1,g0,g1,l1⟩:=B6 hF;go_wp2;refine Al (v:=.tuple #[.int .u64 ((Ed L:Nat):Int),.int .i64 (10),.agg #[.int .i64 0,.int .i64 0]]) ZD rfl ⟨?_,zA⟩;rw[HG.out];simp[M4,H9.out]
       ·obtain⟨m,rfl⟩:∃m,k=m+1:=⟨k-1,zD⟩
        obtain rfl:j=(m:Int):=by have:=hj.out;omega
        have hmb:m<b.length:=zD;obtain⟨gb,ob,hA,_,hcm⟩:=Cs (lift HL.out hbW) hmb;simp only[Bd,CZ,AM] at hA;obtain⟨rfl,rfl⟩:=hA;have HS:Hid (Ed (L.drop m)=b[m].toNat%128+128*Ed (L.drop (m+1))):=hid zAk;have hle:Ed (L.drop m)<18446744073709551616:=Nat.lt_of_le_of_lt (JW L m) hL;rw[HS.out] at hle;generalize Ed (L.drop (m+1))=X at*;generalize b[m]=d at*;have i1:(m:Int)<(b.length:Int):=zD;have i2:(0:Int)≤(m:Int):=zD;have hd:=d.toNat_lt;have hle2:128*(X:Int)+(d.toNat:Int)%128≤18446744073709551615:=zD;have hle3:128*(X:Int)≤18446744073709551615:=zD;have HSM:=hid hj;clear hj;go_wp2;go_roundw
        case rel=>exact ⟨m,(m:Int)-1,zD,hid rfl,zD,zD,zV,by rw[HS.out];go_num,zBz⟩
        case measure=>simp [intOf]
   ·have d1:((n:Int)==9)=false:=by rw[BW];omega
    by_cases hc0:e.toNat=0
    ·have d4:((e.toNat:Int)==0)=true:=by rw[hc0];rfl
     by_cases hn0:0<n
     ·have d3:decide ((0:Int)<(n:Int))=true:=Ad zD
      have d3':decide (0<n)=true:=Ad zD;rw[hvat,Ak (fun e=>h9 e.1),Ai ⟨hn0,hc0⟩] at hgv;have HG:=hid hgv;clear hgv hg hvat hdt
      (try clear h9);(try clear hc0);(try clear hc1);(try clear hn0);(try clear hc7)
      go_wp2_with fail;refine (Hj wr 4 n zD).mono ?_;rintro r w1 ⟨rfl,hb1⟩;obtain⟨y0,y1,g0,g1,l1⟩:=B6 (hF.later hb1);have hbw1:=Af hb1 hbW;go_wp2;refine Al (v:=.tuple #[.int .u64 0,.int .i64 0,.agg #[.int .i64 4,.int .i64 n]]) ZD rfl ⟨?_,zA⟩;rw[HG.out];simp[M4]
     ·have d3:decide ((0:Int)<(n:Int))=false:=Ae zD
      have d3':decide (0<n)=false:=Ae zD;have d5:decide ((e.toNat:Int)<128)=true:=Ad zD;have d5':decide (e.toNat<128)=true:=Ad zD;have hfit:=FD hn9 (IG b n) (c:=e.toNat) (fun e=>absurd e h9);have hmod:e.toNat%128=e.toNat:=Eu zD;rw[hvat,Ak (fun e=>h9 e.1),Ak (fun e=>hn0 e.1),Ai zD] at hgv;have HDT:=hid hdt;have hL:Ed (b.take (n+1))<18446744073709551616:=by
       rw[HDT.out];exact Mg hn9 (IG b n) (fun e=>absurd e h9)
      rw[←hmod,←HDT.out] at hgv;have HG:=hid hgv;have hn1:Hid ((b.take (n+1)).length=n+1):=hid zH;have HTK:Hid (∀m,(h:m<n+1)→(b.take (n+1))[m]'(by rw[hn1.out];exact h)=b[m]'zD):=hid (fun m h=>zN);have hd0:Hid (Ed ((b.take (n+1)).drop (n+1))=0):=hid zA0;generalize b.take (n+1)=L at*;clear hgv hg hfit hmod HDT hvat hdt
      (try clear h9);(try clear hc0);(try clear hc1);(try clear hn0);(try clear hc7)
      go_wp2_with fail;go_loopw [6,7] (fun x i w2=>∃(k:Nat) (j:Int),k≤n+1∧Hid (j=(k:Int)-1)∧-1≤j∧j≤n∧i=.int .i64 j∧x=.int .u64 ((Ed (L.drop k):Nat):Int)∧w2=wr) (fun _ i _=>(intOf i+1).toNat)
      case atStart=>exact ⟨n+1,n,zD,hid zD,zD,zD,rfl,by rw[hd0.out];rfl,rfl⟩
      case round=>
       obtain⟨k,j,hk,hj,hj1,hj2,rfl,rfl,rfl⟩:=hrel;rcases Cf k with hk0 | hk0
       ·have e1:j=-1:=by have:=hj.out;omega
        subst e1;subst hk0;have e2:Hid (L.drop 0=L):=hid rfl;rw[e2.out];obtain⟨y0,y1,g0,g1,l1⟩:=B6 hF;go_wp2;refine Al (v:=.tuple #[.int .u64 ((Ed L:Nat):Int),.int .i64 ((n:Int)+1),.agg #[.int .i64 0,.int .i64 0]]) ZD rfl ⟨?_,zA⟩;rw[HG.out];simp[M4]
       ·obtain⟨m,rfl⟩:∃m,k=m+1:=⟨k-1,zD⟩
        obtain rfl:j=(m:Int):=by have:=hj.out;omega
        have hmb:m<b.length:=zD;obtain⟨gb,ob,hA,_,hcm⟩:=Cs (lift HL.out hbW) hmb;simp only[Bd,CZ,AM] at hA;obtain⟨rfl,rfl⟩:=hA;have HS:Hid (Ed (L.drop m)=b[m].toNat%128+128*Ed (L.drop (m+1))):=hid zAk;have hle:Ed (L.drop m)<18446744073709551616:=Nat.lt_of_le_of_lt (JW L m) hL;rw[HS.out] at hle;generalize Ed (L.drop (m+1))=X at*;generalize b[m]=d at*;have i1:(m:Int)<(b.length:Int):=zD;have i2:(0:Int)≤(m:Int):=zD;have hd:=d.toNat_lt;have hle2:128*(X:Int)+(d.toNat:Int)%128≤18446744073709551615:=zD;have hle3:128*(X:Int)≤18446744073709551615:=zD;have HSM:=hid hj;clear hj;go_wp2;go_roundw
        case rel=>exact ⟨m,(m:Int)-1,zD,hid rfl,zD,zD,zV,by rw[HS.out];go_num,zBz⟩
        case measure=>simp [intOf]
    ·have d4:((e.toNat:Int)==0)=false:=by rw[BW];omega
     by_cases hc7:e.toNat<128
     ·have d5:decide ((e.toNat:Int)<128)=true:=Ad zD
      have d5':decide (e.toNat<128)=true:=Ad zD;have HN0:∃q,decide ((0:Int)<(n:Int))=q∧decide (0<n)=q:=⟨_,rfl,zN⟩;obtain⟨q,d3,d3'⟩:=HN0;cases q;all_goals
       have hfit:=FD hn9 (IG b n) (c:=e.toNat) (fun e=>absurd e h9);have hmod:e.toNat%128=e.toNat:=Eu zD;rw[hvat,Ak (fun e=>h9 e.1),Ak (fun e=>hc0 e.2),Ai hc7] at hgv;have HDT:=hid hdt;have hL:Ed (b.take (n+1))<18446744073709551616:=by
        rw[HDT.out];exact Mg hn9 (IG b n) (fun e=>absurd e h9)
       rw[←hmod,←HDT.out] at hgv;have HG:=hid hgv;have hn1:Hid ((b.take (n+1)).length=n+1):=hid zH;have HTK:Hid (∀m,(h:m<n+1)→(b.take (n+1))[m]'(by rw[hn1.out];exact h)=b[m]'zD):=hid (fun m h=>zN);have hd0:Hid (Ed ((b.take (n+1)).drop (n+1))=0):=hid zA0;generalize b.take (n+1)=L at*;clear hgv hg hfit hmod HDT hvat hdt
       (try clear h9);(try clear hc0);(try clear hc1);(try clear hn0);(try clear hc7)
       go_wp2_with fail;go_loopw [6,7] (fun x i w2=>∃(k:Nat) (j:Int),k≤n+1∧Hid (j=(k:Int)-1)∧-1≤j∧j≤n∧i=.int .i64 j∧x=.int .u64 ((Ed (L.drop k):Nat):Int)∧w2=wr) (fun _ i _=>(intOf i+1).toNat)
       case atStart=>exact ⟨n+1,n,zD,hid zD,zD,zD,rfl,by rw[hd0.out];rfl,rfl⟩
       case round=>
        obtain⟨k,j,hk,hj,hj1,hj2,rfl,rfl,rfl⟩:=hrel;rcases Cf k with hk0 | hk0
        ·have e1:j=-1:=by have:=hj.out;omega
         subst e1;subst hk0;have e2:Hid (L.drop 0=L):=hid rfl;rw[e2.out];obtain⟨y0,y1,g0,g1,l1⟩:=B6 hF;go_wp2;refine Al (v:=.tuple #[.int .u64 ((Ed L:Nat):Int),.int .i64 ((n:Int)+1),.agg #[.int .i64 0,.int .i64 0]]) ZD rfl ⟨?_,zA⟩;rw[HG.out];simp[M4]
        ·obtain⟨m,rfl⟩:∃m,k=m+1:=⟨k-1,zD⟩
         obtain rfl:j=(m:Int):=by have:=hj.out;omega
         have hmb:m<b.length:=zD;obtain⟨gb,ob,hA,_,hcm⟩:=Cs (lift HL.out hbW) hmb;simp only[Bd,CZ,AM] at hA;obtain⟨rfl,rfl⟩:=hA;have HS:Hid (Ed (L.drop m)=b[m].toNat%128+128*Ed (L.drop (m+1))):=hid zAk;have hle:Ed (L.drop m)<18446744073709551616:=Nat.lt_of_le_of_lt (JW L m) hL;rw[HS.out] at hle;generalize Ed (L.drop (m+1))=X at*;generalize b[m]=d at*;have i1:(m:Int)<(b.length:Int):=zD;have i2:(0:Int)≤(m:Int):=zD;have hd:=d.toNat_lt;have hle2:128*(X:Int)+(d.toNat:Int)%128≤18446744073709551615:=zD;have hle3:128*(X:Int)≤18446744073709551615:=zD;have HSM:=hid hj;clear hj;go_wp2;go_roundw
         case rel=>exact ⟨m,(m:Int)-1,zD,hid rfl,zD,zD,zV,by rw[HS.out];go_num,zBz⟩
         case measure=>simp [intOf]
     ·have d5:decide ((e.toNat:Int)<128)=false:=Ae zD
      have d5':decide (e.toNat<128)=false:=Ae zD;rw[hvat,Ak (fun e=>h9 e.1),Ak (fun e=>hc0 e.2),Ak hc7] at hgv;have HG:=hid hgv;have hn8:n+1≤9:=zD;clear hgv hg h9 hc0 hc7 hvat hdt;have HN0:∃q,decide ((0:Int)<(n:Int))=q∧decide (0<n)=q:=⟨_,rfl,zN⟩;obtain⟨q,d3,d3'⟩:=HN0;cases q;all_goals
       go_wp2;go_roundw
       case rel=>exact ⟨n+1,zD,hn8,zV,HG,zBz⟩
       case measure=>simp [intOf];omega
  ·obtain rfl:n=b.length:=by omega
   have hgv:=hg.out;rw[GM] at hgv;have HG:=hid hgv;have d0:decide ((b.length:Int)<(b.length:Int))=false:=Ae zD;clear hgv hg;go_wp2_with fail;refine (Hj wr 1 b.length zD).mono ?_;rintro r w1 ⟨rfl,hb1⟩;obtain⟨y0,y1,g0,g1,l1⟩:=B6 (hF.later hb1);have hbw1:=Af hb1 hbW;go_wp2;refine Al (v:=.tuple #[.int .u64 0,.int .i64 0,.agg #[.int .i64 1,.int .i64 b.length]]) ZD rfl ⟨?_,zA⟩;rw[HG.out];simp[M4,Cp]
end Go.Proofs.YtfddhafbhceoaaaGreat
