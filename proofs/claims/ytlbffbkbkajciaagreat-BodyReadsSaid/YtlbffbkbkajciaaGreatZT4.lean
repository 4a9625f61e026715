/- Mini: Needed by bodyReads_walk, part 4: texts put together by shake.py; no condition. -/
import Derived.Test.YtlbffbkbkajciaaGreatZT2
import Derived.Test.YtlbffbkbkajciaaGreatZT3
import Derived.Test.YtlbffbkbkajciaaGreatZT1
import Derived.Deep.RegionHeld3
import Derived.IntWalk
import Derived.ScopeJumps
import Derived.WalkMore
set_option linter.unusedVariables false
set_option linter.unusedSimpArgs false
set_option maxRecDepth 100000
set_option maxHeartbeats 6400000
namespace Go.Bs
theorem zCj{p:Prop}(h:p:=by rw [← hDm]; exact Ah.mono hsub fun q hq => hq.1):p:=h
theorem zBb{p:Prop}(h:p:=by simp [World.setCell]; exact hq.2):p:=h
theorem zA6{p:Prop}(h:p:=by simp [hk]):p:=h
theorem zAo{p:Prop}(h:p:=by simp [results, Tryz.results123, go_sem, y0, y1, y2, y3, l1]):p:=h
theorem ZX{p:Prop}(h:p:=by have := HFIT.out; rw [HK.out] at this; simp at this ⊢; omega):p:=h
theorem ZW{p:Prop}(h:p:=by have := HLEN.out; rw [HK.out] at this; simp at this ⊢; omega):p:=h
theorem zV{p:Prop}(h:p:=by rw [HDM.out]; exact HSB.out _ (by (repeat (first | exact Below.refl _ _ | assumption | (refine As ?_ _) | (refine Below.setCell ?_ (by first | omega | (simp; done) | (simp; omega)) _) | (refine Below.drew ?_) | (refine below_drewN ?_ _) | (refine Af (by assumption) ?_))))):p:=h
theorem zA{p:Prop}(h:p:=by (repeat (first | with_reducible exact Below.refl _ _ | with_reducible assumption | (with_reducible refine As ?_ _) | (with_reducible refine Below.setCell ?_ (by first | omega | (simp; done) | (simp; omega)) _) | (with_reducible refine Below.drew ?_) | (with_reducible refine below_drewN ?_ _) | (refine Af (by with_reducible assumption) ?_)))):p:=h
theorem Cz:type_of% @of_decide_eq_true:=@of_decide_eq_true
theorem GM:type_of% @of_decide_eq_false:=@of_decide_eq_false
end Go.Bs
namespace Go.Proofs.YtlbffbkbkajciaaGreat
open Go.RowKit Go.Bs Go.Maps
def Rest(b:List UInt8)(p i:Nat)(O:List Tok):Prop:=∃f,b.length≤p+f∧C7 b=O++DG b f p i
theorem Rest.copy{b:List UInt8}{p i o m:Nat}{O:List Tok}(h:Rest b p i O)(hp:p<b.length)(hb:Bt b p=(o,m))(hm:m≠0):Rest b (p+m) (p+m) (O++Dt b i p++[⟨[],(o:Int),(m:Int)⟩]):=by
 obtain⟨f,hf,h⟩:=h
 obtain⟨f,rfl⟩:∃f',f=f'+1:=⟨f-1,zD⟩
 refine⟨f,zD,?_⟩
 rw[h]
 simp only[DG,Al hp,hb,Ak hm]
 simp
theorem Rest.none{b:List UInt8}{p i o:Nat}{O:List Tok}(h:Rest b p i O)(hp:p<b.length)(hb:Bt b p=(o,0)):Rest b (p+1) i O:=by
 obtain⟨f,hf,h⟩:=h
 obtain⟨f,rfl⟩:∃f',f=f'+1:=⟨f-1,zD⟩
 refine⟨f,zD,?_⟩
 rw[h]
 simp only[DG,Al hp,hb,Dx]
theorem Rest.fin{b:List UInt8}{i:Nat}{O:List Tok}(h:Rest b b.length i O):C7 b=O++Dt b i b.length:=by
 obtain⟨f,hf,h⟩:=h
 rw[h]
 cases f with
 | zero=>rfl
 | succ f=>simp only[DG,Ak (Nat.lt_irrefl _)]
def H6(O:List Tok):Prop:=∀n,O.length=n+1→∀t,O[n]? =some t→t.off≠0
theorem H6.snoc(O:List Tok){o m:Nat}(ho:o≠0):H6 (O++[⟨[],(o:Int),(m:Int)⟩]):=fun n hn t ht=>by
 have e:n=O.length:=by simp at hn;omega
 subst e;simp at ht
 subst ht;simpa using ho
def Oj(lo:Nat)(b:List UInt8)(w:World)(v:Value)(O:List Tok)(i p:Nat):Prop:=
 (i=p∧∃cells,Cn lo Fu lo 225 3 w v O cells)∨(i<p∧∃g c cells vl,v=.slice (some ⟨g,0,none⟩) (O.length+1) c∧FZ lo w g c cells O ((b.drop i).take (p-i)) vl)
theorem Oj.close{lo:Nat}{b:List UInt8}{w:World}{v:Value}{O:List Tok}{i p:Nat}(h:Oj lo b w v O i p):∃cells,Cn lo Fu lo 225 3 w v (O++Dt b i p) cells:=by
 rcases h with ⟨rfl,cells,h⟩ | ⟨h0,g,c,cells,vl,rfl,h⟩
 ·exact⟨cells,by simpa [Dt] using h⟩
 ·exact⟨_,by have:=h.close;simpa [Dt,h0] using this⟩
theorem Mf{b:List UInt8}{i p:Nat}(hi:i≤p)(hp:p<b.length):(b.drop i).take (p+1-i)=(b.drop i).take (p-i)++[b[p]]:=by
 rw[show p+1-i=(p-i)+1 by omega,H7 zK]
 congr 2
 simp
 congr 1
 omega
theorem K9(b:List UInt8)(a:Option Addr)(n c:Nat)(w:World)(hl:Ah.r (·<w.heap.size) w [.slice a n c] b)(hlen:b.length≤1048576):
  Calls Tryz.prog 226 #[.slice a n c] w fun r w'=>∃v,r=.returned v∧IP.r (fun q=>w.heap.size≤q∧q<w'.heap.size) w' [v] (C7 b)∧Below w.heap.size w w':=by
 obtain⟨rfl,hm,_,_⟩:=AW hl
 obtain⟨i0,hi,hz0,hz1,hz2⟩:=A8 Eh
 obtain⟨j0,hj0,hy0,hy1,hy2⟩:=A8 Lt
 have HL:=hid hl
 clear hl;go_enter Tryz.func226,Tryz.ntmps226
 go_wp2_with fail;go_loopw [3,4] (fun v pv wr=>∃(p i:Nat) (O:List Tok),pv=.int .i64 p∧p≤b.length∧i≤p∧O.length≤i∧Hid (Rest b p i O)∧Hid (H6 O)∧Hid (Oj w.heap.size b wr v O i p)∧Below w.heap.size w wr) (fun _ pv _=>b.length-(intOf pv).toNat)
 case atStart=>exact ⟨0,0,[],rfl,Am _,Ai _,Ai _,hid ⟨b.length,zD,rfl⟩,hid (fun n hn=>by simp at hn),hid (.inl ⟨rfl,Ax.nil⟩),Below.refl _ _⟩
 case round=>
  obtain⟨p,i,O,rfl,hp,hip,hOi,hrest,hlc,hout,hb⟩:=hrel
  have hbs:=hb.size
  obtain⟨cells3,hcl⟩:=hout.out.close
  obtain⟨av,cv,rfl⟩:=AP hcl.1
  have hLL:(O++Dt b i p).length≤p:=by
   unfold Dt;split<;>simp<;>omega
  rcases Ba p b.length with hlt | hge
  ·have HB:=hid (L8 b p a _ c wr (lift HL.out hb) hlen)
   have hfc:=hid (Ex b p)
   have hroom:=FR b p
   generalize hom:Bt b p=om at*
   obtain⟨o,m⟩:=om
   dsimp only at hroom;have HOM:=hid hom;have HCL:=hid hcl
   clear hom hcl;by_cases hm0:m=0
   ·subst hm0
    have hrn:=hid (hrest.out.none hlt HOM.out)
    have hyb:=Bq HL.out hlt
    obtain⟨ab,ob,hA,hab,hcb⟩:=hyb
    subst hA;have hab':ab<w.heap.size:=hab
    rcases hout.out with ⟨hipe,cells,hcl0⟩ | ⟨h0,g,cg,cells,vl,hv,htb⟩
    ·subst hipe
     have hlit:Dt b i i=[]:=by simp[Dt]
     have HLS:=hid (Mf (Ai i) hlt)
     simp only[CS,List.take_zero,B9] at HLS
     simp only[hlit,List.append_nil] at hcl0 hLL hrn ⊢
     generalize b[i]=y at*
     clear hlit hout HCL;have HCB:=hid hcb
     clear hcb;rcases C6 O.length with hO0 | hO0
     ·obtain rfl:O=[]:=AG hO0
      clear hO0;simp only[Bp] at*
      go_wp2_with fail;refine HB.out.mono ?_
      rintro r w2 ⟨rfl,hb2⟩;have hs2:=hb2.size
      have hbw2:=Af hb2 hb
      have HC2:=hid (hcl0.below hb2)
      have Yb:=(hbw2.cell (p:=⟨ab,ob+i,none⟩) hab).trans HCB.out
      have i4:(i:Int)<(b.length:Int):=zD
      go_wp2_with (at_builtin;go_loud (refine Aq rfl _ _ _ rfl w.heap.size 225 j0 (.agg #[.slice none 0 0,.int .i64 0,.int .i64 0]) 3 40 Tryz.underlying214 hj0 hy0 hy1 hy2 rfl zS (.slice av 0 cv) 0 cells.flatten rfl (AI HC2.out.1 zC) (some ⟨w2.heap.size+1,0,none⟩) 1 1 [.slice (some ⟨w2.heap.size,0,none⟩) 1 1,.int .i64 0,.int .i64 0] rfl (A9 (w2.alloc (.cells #[.int .u8 (y.toNat:Int)] 5)) 225 _ rfl zR rfl) (by intro u hu;simp at hu;rcases hu with rfl | rfl | rfl<;>rfl) zQ zD zK ?_;intro v8 w8 hown8 hgrow8 hat8;obtain⟨g8,c8,rfl⟩:=Qd hown8;have HG8:=hid hgrow8;have HO8:=hid hown8;have HA8:=hid hat8;clear hgrow8 hown8 hat8))
      have hst:=FZ.start zD HC2.out HO8.out HG8.out HA8.out
      have hb8:Below w.heap.size w w8:=Below.grown zC HG8.out zK (fun g e=>(HC2.out.1.lt g e).1)
      have hto:Oj w.heap.size b w8 (.slice (some ⟨g8,0,none⟩) (0+1) c8) [] i (i+1):=.inr ⟨zD,g8,c8,cells,_,rfl,by rw[HLS.out];exact hst⟩
      have HTO:=hid hto
      clear hto hst;go_wp2_with fail;go_roundw
      case rel=>exact ⟨i+1,i,[],ZB,zD,zD,zD,hrn,hlc,HTO,hb8⟩
      case measure=>simp [intOf];omega
     ·obtain⟨k,hk⟩:∃k,O.length=k+1:=⟨O.length-1,zD⟩
      obtain⟨gt,ot,hA2,hgt,at2,ct2,q0,q1,q2,zz1,zz2,zz3⟩:=K1 (xs:=O) (Ax.slice (Ai _) ⟨_,hcl0⟩) (i:=k) zD
      have hoff:=hlc.out k hk O[k] (AH zD)
      have eo:(O[k].off==0)=false:=by simpa using hoff
      have HQ1:=hid q1
      have t1:((O.length:Int)-1).toNat=k:=zD
      have t2:(0:Int)≤(O.length:Int)-1:=zD
      have t3:(O.length:Int)-1<(O.length:Int):=zD
      have d5:decide ((0:Int)≤(O.length:Int)-1)=true:=Ae t2
      generalize O[k].off=of at*
      have HHK:=hid hk
      clear zz1 zz2 zz3 q0 q1 q2 hoff;clear hk hO0;have hgt':=hgt
      subst hA2;go_wp2_with fail;refine HB.out.mono ?_
      rintro r w2 ⟨rfl,hb2⟩;have hs2:=hb2.size
      have hbw2:=Af hb2 hb
      have HC2:=hid (hcl0.below hb2)
      have Q1:=(hb2.cell (p:=⟨gt,ot+k*3+1,none⟩) hgt.2).trans HQ1.out
      have Yb:=(hbw2.cell (p:=⟨ab,ob+i,none⟩) hab).trans HCB.out
      have i4:(i:Int)<(b.length:Int):=zD
      go_wp2_with (at_builtin;go_loud (refine Aq rfl _ _ _ rfl w.heap.size 225 j0 (.agg #[.slice none 0 0,.int .i64 0,.int .i64 0]) 3 40 Tryz.underlying214 hj0 hy0 hy1 hy2 rfl zS (.slice (some ⟨gt,ot,none⟩) O.length cv) O.length cells.flatten rfl (AI HC2.out.1 zC) (some ⟨w2.heap.size+1,0,none⟩) 1 1 [.slice (some ⟨w2.heap.size,0,none⟩) 1 1,.int .i64 0,.int .i64 0] rfl (A9 (w2.alloc (.cells #[.int .u8 (y.toNat:Int)] 5)) 225 _ rfl zR rfl) (by intro u hu;simp at hu;rcases hu with rfl | rfl | rfl<;>rfl) zQ zD zK ?_;intro v8 w8 hown8 hgrow8 hat8;obtain⟨g8,c8,rfl⟩:=Qd hown8;have HG8:=hid hgrow8;have HO8:=hid hown8;have HA8:=hid hat8;clear hgrow8 hown8 hat8))
      have hst:=FZ.start zD HC2.out HO8.out HG8.out HA8.out
      have hb8:Below w.heap.size w w8:=Below.grown zC HG8.out zK (fun g e=>(HC2.out.1.lt g e).1)
      have hto:Oj w.heap.size b w8 (.slice (some ⟨g8,0,none⟩) (O.length+1) c8) O i (i+1):=.inr ⟨zD,g8,c8,cells,_,rfl,by rw[HLS.out];exact hst⟩
      have HTO:=hid hto
      clear hto hst;go_wp2_with fail;go_roundw
      case rel=>exact ⟨i+1,i,O,ZB,zD,zD,zD,hrn,hlc,HTO,hb8⟩
      case measure=>simp [intOf];omega
    ·have hlt1:(O++Dt b i p).length=O.length+1:=by simp[Dt,h0]
     rw[hlt1] at*
     have HLS:=hid (Mf hip hlt)
     simp only[Value.slice.injEq] at hv
     obtain⟨rfl,_,rfl⟩:=hv
     generalize hDD:(b.drop i).take (p-i)=D at*
     have hDl:D.length≤1048576:=by rw[←hDD];simp;omega
     generalize b[p]=y at*
     clear hDD hlt1 hout HCL;obtain⟨al,cl,rfl⟩:=AP htb.last
     have HCB:=hid hcb;have HTB:=hid htb
     clear hcb htb;have d5:decide ((0:Int)≤(O.length:Int))=true:=Ae zD
     have kk:(O.length:Int)+1-1=(O.length:Int):=zD
     have i3:(O.length:Int)<(O.length:Int)+1:=zD
     have i4:(p:Int)<(b.length:Int):=zD
     have i5:(0:Int)≤(O.length:Int):=zD
     go_wp2_with fail;refine HB.out.mono ?_
     rintro r w2 ⟨rfl,hb2⟩;have hs2:=hb2.size
     have hbw2:=Af hb2 hb
     have HT2:=hid (HTB.out.later hb2)
     obtain⟨pl0,pl1,pl2⟩:=HT2.out.place
     obtain⟨hg1,hg2⟩:=HT2.out.RG
     have hne:=HT2.out.ne
     have hol:=fun q (hq:(Value.slice al D.length cl).ownBlock=some q)=>HT2.out.last.lt q hq
     have HOL:=hid hol;clear hol
     have Yb:=(hbw2.cell (p:=⟨ab,ob+p,none⟩) hab).trans HCB.out
     have hab2:ab<w2.heap.size:=zD
     go_wp2_with fail;refine CZ (fun w'=>w'.cell? ⟨g,O.length*3,none⟩=some (.slice al D.length cl)∧w'.cell? ⟨ab,ob+p,none⟩=some (.int .u8 (y.toNat:Int))) _ zJ rfl zJ ⟨pl0,Yb⟩ (fun hHeld=> ?_)
     simp only[BW,Fm]
     refine Ao (i:=0) (oi:=_) (v:=?_) rfl zG zG zG (fun _ _ _ h=>h) (Or.inl ⟨zX,?_⟩) zO ?_
     rotate_left
     ·(intro w hSw;(try dsimp only at hSw);go_simp<;>with_reducible rfl)
     (try simp only[Act.put,Aa,Ab,Ac])
     refine Ao (i:=1) (oi:=_) (v:=?_) rfl zG zG zG (fun _ _ _ h=>h) (Or.inl ⟨zX,?_⟩) zO ?_
     rotate_left
     ·(intro w hSw;(try dsimp only at hSw);go_simp<;>with_reducible rfl)
     (try simp only[Act.put,Aa,Ab,Ac])
     refine Ao (i:=2) (oi:=_) (v:=?_) rfl zG zG zG (fun _ _ _ h=>h) (Or.inl ⟨zX,?_⟩) zO ?_
     rotate_left
     ·(intro w hSw;(try dsimp only at hSw);go_simp<;>with_reducible rfl)
     (try simp only[Act.put,Aa,Ab,Ac])
     refine Ao (i:=3) (oi:=_) (v:=?_) rfl zG zG zG (fun _ _ _ h=>h) (Or.inl ⟨zX,?_⟩) zO ?_
     rotate_left
     ·(intro w hSw;(try dsimp only at hSw);go_simp<;>with_reducible rfl)
     (try simp only[Act.put,Aa,Ab,Ac])
     refine Ao (i:=4) (oi:=_) (v:=?_) rfl zG zG zG (fun _ _ _ h=>h) (Or.inl ⟨zX,?_⟩) zO ?_
     rotate_left
     ·(intro w hSw;(try dsimp only at hSw);go_simp<;>with_reducible rfl)
     (try simp only[Act.put,Aa,Ab,Ac])
     refine Ao (i:=5) (oi:=_) (v:=?_) rfl zG zG zG (fun _ _ _ h=>h) (Or.inl ⟨zX,?_⟩) zO ?_
     rotate_left
     ·(intro w hSw;(try dsimp only at hSw);go_simp<;>with_reducible rfl)
     (try simp only[Act.put,Aa,Ab,Ac])
     refine Ao (i:=6) (oi:=_) (v:=?_) rfl zG zG zG (fun _ _ _ h=>h) (Or.inl ⟨zX,?_⟩) zO ?_
     rotate_left
     ·(intro w hSw;(try dsimp only at hSw);go_simp<;>with_reducible rfl)
     (try simp only[Act.put,Aa,Ab,Ac])
     refine Ao (i:=7) (oi:=_) (v:=?_) rfl zG zG zG (fun _ _ _ h=>h) (Or.inl ⟨zX,?_⟩) zO ?_
     rotate_left
     ·(intro w hSw;(try dsimp only at hSw);go_simp<;>with_reducible rfl)
     (try simp only[Act.put,Aa,Ab,Ac])
     refine Ao (i:=8) (oi:=_) (v:=?_) rfl zG zG zG (fun _ _ _ h=>h) (Or.inl ⟨zX,?_⟩) zO ?_
     rotate_left
     ·(intro w hSw;(try dsimp only at hSw);go_simp<;>with_reducible rfl)
     (try simp only[Act.put,Aa,Ab,Ac])
     refine Ao (i:=9) (oi:=_) (v:=?_) rfl zG zG zG (fun _ _ _ h=>h) (Or.inl ⟨zX,?_⟩) zO ?_
     rotate_left
     ·(intro w hSw;(try dsimp only at hSw);go_simp<;>with_reducible rfl)
     (try simp only[Act.put,Aa,Ab,Ac])
     refine Ao (i:=10) (oi:=_) (v:=?_) rfl zG zG zG (fun _ _ _ h=>h) (Or.inl ⟨zX,?_⟩) zO ?_
     rotate_left
     ·(intro w hSw;(try dsimp only at hSw);go_simp<;>with_reducible rfl)
     (try simp only[Act.put,Aa,Ab,Ac])
     refine A3 (rs:=[11]) zG zR ?_
     refine AT (o:=_) rfl (fun K hK=> ?_) AllReadyH.nil
     go_simp
     refine hK.out _ _ ?_ (fun hHeld=> ?_)
     ·((try dsimp only);refine⟨?_,?_⟩<;>(first | assumption | (go_keep;done)))
     clear hK K
     (try simp only[Act.put,Aa,Ab,Ac])
     refine A3 (rs:=[12]) zG zR ?_
     refine AT (o:=_) rfl (fun K hK=> ?_) AllReadyH.nil
     (refine CO zX _ _ _ zX w.heap.size 5 i0 (.int .u8 0) 1 1 Tryz.underlying25 hi hz0 hz1 hz2 rfl zS (.slice al D.length cl) D.length (byteCells D) zX (AI HT2.out.last zC) (some ⟨w2.heap.size,0,none⟩) 1 1 [.int .u8 (y.toNat:Int)] zX (A9 w2.drew 5 _ zX zX rfl) ZL zQ zD zK ?_;intro a8 c8 w8 hown8 hgrow8 hat8;have G:=fun b' (hb:b'<w2.heap.size) (hne:(Value.slice al D.length cl).ownBlock≠some b')=>(hgrow8.block b' zK (fun e=>hne e.symm)).trans (Below.heap_alloc w2.drew _ b' (by exact hb));have m1:=(Bd (a:=⟨g,O.length*3,none⟩) (G g hg2 hne)).trans pl0;have m2:=(Cg (a:=⟨g,O.length*3,none⟩) (G g hg2 hne)).trans pl2;have neb:(Value.slice al D.length cl).ownBlock≠some ab:=fun e=>by {have:=(HOL.out _ e).1;omega};have m3:=(Bd (a:=⟨ab,ob+p,none⟩) (G ab hab2 neb)).trans Yb;have m4:g<w8.heap.size:=An hg2 (AV zR hgrow8.size);have HG8:=hid hgrow8;have HO8:=hid hown8;have HA8:=hid hat8;have HGG:=hid G;clear hgrow8 hown8 hat8 G neb)
     refine hK.out _ _ ?_ (fun hHeld=> ?_)
     ·((try dsimp only);refine⟨?_,?_⟩<;>(first | assumption | (go_keep;done)))
     clear hK K
     (try simp only[Act.put,Aa,Ab,Ac])
     refine Ao (i:=13) (oi:=_) (v:=?_) rfl zG zG zG (fun _ _ _ h=>h) (Or.inl ⟨zX,?_⟩) zO ?_
     rotate_left
     ·(intro w hSw;(try dsimp only at hSw);go_simp<;>with_reducible rfl)
     (try simp only[Act.put,Aa,Ab,Ac])
     refine Ao (i:=14) (oi:=_) (v:=?_) rfl zG zG zG (fun _ _ _ h=>h) (Or.inl ⟨zX,?_⟩) zO ?_
     rotate_left
     ·(intro w hSw;(try dsimp only at hSw);go_simp<;>with_reducible rfl)
     (try simp only[Act.put,Aa,Ab,Ac])
     refine Ao (i:=15) (oi:=_) (v:=?_) rfl zG zG zG (fun _ _ _ h=>h) (Or.inl ⟨zX,?_⟩) zO ?_
     rotate_left
     ·(intro w hSw;(try dsimp only at hSw);go_simp<;>with_reducible rfl)
     (try simp only[Act.put,Aa,Ab,Ac])
     refine Di zJ ?_ _
     show wpList _ _ _ _ _ _
     have hs8:w2.heap.size+1≤w8.heap.size:=by have:=HG8.out.size;simpa using this
     have hgr:=FZ.grow (w':=w8) (D':=D++[y]) (vl':=.slice a8 (D.length+1) c8) HT2.out (fun q hq hn=>HGG.out q hq hn) zD (by rw[Ar,←C5];exact HO8.out) (by
      rcases HA8.out with h | h
      ·exact .inl h
      ·exact .inr ⟨_,h,zR⟩)
     have hb8:Below w.heap.size w w8:=Below.grown zC HG8.out zK (fun g e=>(HOL.out g e).1)
     have hb9:Below w.heap.size w (w8.setCell ⟨g,O.length*3,none⟩ (.slice a8 (D.length+1) c8)):=hb8.setCell hg1 _
     have hto:Oj w.heap.size b (w8.setCell ⟨g,O.length*3,none⟩ (.slice a8 (D.length+1) c8)) (.slice (some ⟨g,0,none⟩) (O.length+1) cv) O i (p+1):=.inr ⟨zD,g,cv,cells,_,rfl,by rw[HLS.out];exact hgr⟩
     have HTO:=hid hto
     clear hto hgr;go_wp2_with fail;go_roundw
     case rel=>exact ⟨p+1,i,O,ZB,zD,zD,zD,hrn,hlc,HTO,hb9⟩
     case measure=>simp [intOf];omega
   ·have hm4:1≤o∧4≤m:=by
     rcases hfc.out with h | ⟨o',m',h,h1,h2,h3,_⟩
     ·simp only[Gx] at h;omega
     ·simp only[Gx] at h;omega
    have hrn:=hid (hrest.out.copy hlt HOM.out hm0)
    have hls:=hid (H6.snoc (O++Dt b i p) (o:=o) (m:=m) zD)
    have d1:decide ((0:Int)<(m:Int))=true:=zK
    have d1':decide (0<m)=true:=zK
    generalize hL3:O++Dt b i p=L3 at*
    clear hL3 hm0;go_wp2_with fail;refine HB.out.mono ?_
    rintro r w2 ⟨rfl,hb2⟩;have hs2:=hb2.size
    have hbw2:=Af hb2 hb
    have HC2:=hid (HCL.out.below hb2)
    go_wp2_with (at_builtin;go_loud (refine Aq rfl _ _ _ rfl w.heap.size 225 j0 (.agg #[.slice none 0 0,.int .i64 0,.int .i64 0]) 3 40 Tryz.underlying214 hj0 hy0 hy1 hy2 rfl zS (.slice av L3.length cv) L3.length cells3.flatten rfl (AI HC2.out.1 zC) (some ⟨w2.heap.size,0,none⟩) 1 1 [.slice none 0 0,.int .i64 (o:Int),.int .i64 (m:Int)] rfl (A9 w2 225 _ rfl rfl rfl) (by intro u hu;simp at hu;rcases hu with rfl | rfl | rfl<;>rfl) zQ zD zK ?_;intro v8 w8 hown8 hgrow8 hat8;obtain⟨a8,c8,rfl⟩:=AP hown8;have HG8:=hid hgrow8;have HO8:=hid hown8;have HA8:=hid hat8;clear hgrow8 hown8 hat8))
    have hx:Fu.r (fun q=>w.heap.size≤q∧q<(w2.alloc (.cells #[.slice none 0 0,.int .i64 (o:Int),.int .i64 (m:Int)] 225)).heap.size∧(Value.slice av L3.length cv).ownBlock≠some q) (w2.alloc (.cells #[.slice none 0 0,.int .i64 (o:Int),.int .i64 (m:Int)] 225)) [.slice none 0 0,.int .i64 (o:Int),.int .i64 (m:Int)] ⟨[],o,m⟩:=
     K0 (x:=⟨[],o,m⟩) (AM rfl (Ai _) (Am _) (.inl rfl)) zK zK
    have hpu:=Ax.push (HC2.out.below zC) rfl hx HO8.out HG8.out HA8.out HG8.out.size
    have hb8:Below w.heap.size w w8:=Below.grown zC HG8.out zK (fun g e=>(HC2.out.1.lt g e).1)
    have hto:Oj w.heap.size b w8 (.slice a8 (L3.length+1) c8) (L3++[⟨[],(o:Int),(m:Int)⟩]) (p+m) (p+m):=.inl ⟨rfl,hpu⟩
    have HTO:=hid hto
    clear hto hpu hx;go_wp2_with fail;go_roundw
    case rel=>exact ⟨p+m,p+m,L3++[⟨[],(o:Int),(m:Int)⟩],ZB,zD,Ai _,zK,hrn,hls,HTO,hb8⟩
    case measure=>simp [intOf];omega
  ·obtain rfl:p=b.length:=by omega
   have hf:=hrest.out.fin
   rw[←hf] at hcl
   have hV:=Ax.slice (Ai _) ⟨_,hcl⟩
   rw[←hf] at*
   have HV:=hid hV
   clear hV hcl hf;go_wp2;go_ret;exact⟨_,rfl,HV.out,hb⟩
theorem Ha{b:List UInt8}(hb:b.length≤1048576):∀{f:Bool} {p:Nat} {ts:List Tok},Good b f p ts→∀t∈ts,Cb t=true
 | _,_,_,.nil,t,ht=>by simp at ht
 | _,_,_,.copy (p:=p) (o:=o) (m:=m) hp hbe hm hg,t,ht=>by
  rcases List.mem_cons.1 ht with rfl | ht
  ·have h1:=Ex b p
   have h2:=(FR b p).1
   rw[hbe] at h1 h2
   simp only at h2
   rcases h1 with h1 | ⟨o',m',h1,g1,g2,g3,_⟩
   ·simp only[Gx] at h1;omega
   ·simp only[Gx] at h1
    unfold reach at g2;simp[Cb,Fi]
    omega
  ·exact Ha hb hg t ht
 | _,_,_,.run (p:=p) (q:=q) h1 h2 h3 hg,t,ht=>by
  rcases List.mem_cons.1 ht with rfl | ht
  ·simp[Cb,Eg]
   omega
  ·exact Ha hb hg t ht
theorem GY{b:List UInt8}(hb:b.length≤1048576):∀t∈C7 b,Cb t=true:=Ha hb (NQ b)
theorem Kg{b:List UInt8}(hb:b.length≤1048576):(C7 b).length≤10000000:=by
 have:=He b b.length 0 0
 unfold C7;omega
theorem Mb(w:World)(b:List UInt8)(a:Option Addr)(n c:Nat)(hl:Ah.r (·<w.heap.size) w [.slice a n c] b)(hlen:b.length≤1048576):
  Calls Tryz.prog 216 #[.slice a n c] w fun r w'=>∃v,r=.returned (.tuple #[v,.int .i64 0])∧Ah.r (fun q=>w.heap.size≤q∧q<w'.heap.size) w' [v] (Ci (C7 b))∧Below w.heap.size w w':=by
 obtain⟨rfl,hm,_,_⟩:=AW hl
 have HT:=hid (Lg w b a _ c hl hlen)
 have hri:=GY hlen
 have hl2:=Kg hlen
 clear hl;generalize C7 b=T at*
 go_enter Tryz.func216,Tryz.ntmps216
 go_wp2_with fail;refine HT.out.mono ?_
 rintro r w1 ⟨v,rfl,hr,hb1⟩;obtain⟨a1,c1,hv,hr2,_⟩:=Au hr
 simp only[Aj,At] at hv
 subst hv;have HB:=hid (LJ T a1 _ c1 w1 (IP.mono hr2 fun q hq=>hq.2) hl2 hri)
 have hs1:=hb1.size
 clear hr hr2;go_wp2_with fail;refine HB.out.mono ?_
 rintro r w2 ⟨v2,rfl,hv2,hb2⟩;have hbe:=Af hb2 hb1
 have HV:=hid (Ah.mono (S':=fun q=>w.heap.size≤q∧q<w2.heap.size) hv2 fun q hq=>⟨zZ,hq.2⟩)
 clear hv2;go_wp2;go_ret2
 exact⟨_,rfl,HV.out,hbe⟩
theorem Ku(x:Nat):∀(hx:x<18446744073709551616) (w:World),
  Calls Tryz.prog 104 #[.int .u64 x] w fun r w'=>∃v,r=.returned v∧w'.ownsRow w.heap.size 5 1 v (A1 x).length (byteCells (A1 x))∧Below w.heap.size w w':=by
 induction x using Nat.strongRecOn with
 | ind x ih=>
 intro hx w;obtain⟨i0,hi,hz0,hz1,hz2⟩:=A8 Eh
 by_cases h:x<128
 ·have d1:decide ((x:Int)<128)=true:=by simp;omega
  have hfin:Hid (A1 x=[UInt8.ofNat x]):=hid (EP h)
  have hby:Hid ((x:Int)=((UInt8.ofNat x).toNat:Int)):=hid (DW zD)
  have HIH:=hid ih;clear ih
  go_enter Tryz.func104,Tryz.ntmps104
  go_wp2_with fail;have e0:[Value.int .u8 (x:Int)]=byteCells (A1 x):=by rw[hfin.out,hby.out];rfl
  have ho:(w.alloc (.cells #[.int .u8 (x:Int)] 5)).ownsRow w.heap.size 5 1 (.slice (some ⟨w.heap.size,0,none⟩) 1 1) 1 (byteCells (A1 x)):=e0 ▸ Fx (w:=w.alloc (.cells #[.int .u8 (x:Int)] 5)) (base:=w.heap.size) (e:=5) (Ai _) (Dj w _)
  have HL1:Hid ((A1 x).length=1):=hid ZI
  have HV:=hid ho
  clear ho e0;go_ret;exact⟨_,rfl,by rw[HL1.out];exact HV.out,zC⟩
 ·have d1:decide ((x:Int)<128)=false:=by simp;omega
  have HIH:=hid (fun (W:World)=>ih (x/128) zD zD W)
  clear ih;rw[show ((x/128:Nat):Int)=(x:Int)/128 by omega] at HIH
  have hfin:Hid (A1 x=[UInt8.ofNat (128+x%128)]++A1 (x/128)):=hid (by rw[Gz h (by omega)];rfl)
  have hby:Hid (128+(x:Int)%128=((UInt8.ofNat (128+x%128)).toNat:Int)):=hid (by rw[←DW (by omega)];omega)
  have hlb:=Bm (x/128)
  go_enter Tryz.func104,Tryz.ntmps104
  go_wp2_with fail;refine (HIH.out _).mono ?_
  rintro r w1 ⟨v1,rfl,hr1,hb1⟩;have ho:=Fx (w:=w.alloc (.cells #[.int .u8 (128+(x:Int)%128)] 5)) (base:=w.heap.size) (e:=5) (Ai _) (Dj w _)
  have ho1:=AI ho hb1
  obtain⟨a1,c1,rfl⟩:=AP hr1
  have hr3:=BI (Ah.mono (BU rfl hr1) (S':=(·<w1.heap.size)) fun b hb=>hb.2)
  have HS:=hid hr3;have HO:=hid ho1;have HONE:=hid (A2 (A1 (x/128)))
  have hz1w:w.heap.size+1≤w1.heap.size:=zB1
  have hbw1:Below w.heap.size w w1:=zC
  clear hr1 hr3 ho ho1;go_wp2_with (at_builtin;go_loud (refine Aq rfl _ _ _ rfl w.heap.size 5 i0 (.int .u8 0) 1 1 Tryz.underlying25 hi hz0 hz1 hz2 rfl zS (.slice (some ⟨w.heap.size,0,none⟩) 1 1) 1 _ rfl HO.out a1 (A1 (x/128)).length c1 (byteCells (A1 (x/128))) rfl HS.out HONE.out zQ zD zD ?_;intro v' w2 hown2 hgrow2 hat2;have HG:=hid hgrow2;have HO2:=hid hown2;clear hgrow2 hown2 hat2))
  have ho:=HO2.out
  rw[hby.out,show [Value.int .u8 ((UInt8.ofNat (128+x%128)).toNat:Int)]=byteCells [UInt8.ofNat (128+x%128)] from rfl,byteCells,byteCells,←List.map_append,←hfin.out] at ho
  rw[show 1+(A1 (x/128)).length=(A1 x).length by rw[hfin.out];simp;omega] at ho
  have hB:Below w.heap.size w w2:=Below.grown hbw1 HG.out zD (fun g e=>(HO.out.lt g e).1)
  have HV:=hid ho
  clear ho;go_ret;exact⟨_,rfl,HV.out,hB⟩
def DJ(D:List UInt8):List UInt8:=A1 D.length++D
theorem GK(D:List UInt8):(DJ D).length=(A1 D.length).length+D.length:=by simp[DJ]
theorem KT(n:Nat)(hn:n≤100000000000000)(w:World):
  Calls Tryz.prog 217 #[.int .i64 n] w fun r w'=>r=.returned (.int .i64 ((A1 n).length+n:Nat))∧Below w.heap.size w w':=by
 have HS:=hid (fun (W:World)=>IA n zD W)
 have hl:=Bm n
 generalize (A1 n).length=k at*
 go_enter Tryz.func217,Tryz.ntmps217
 go_wp2_with fail;refine (HS.out _).mono ?_
 rintro r w1 ⟨rfl,hb1⟩;go_wp2;go_ret;exact⟨zBr,hb1⟩
theorem QG(w:World){g base most:Nat}{J:List UInt8}{a:Option Addr}{c:Nat}(h:CH w g base most J a c)(D:List UInt8)(ad:Option Addr)(nd cd:Nat)
  (hD:Ah.r (fun q=>q<w.heap.size∧¬DY g a q) w [.slice ad nd cd] D) (hfit:J.length+(DJ D).length≤most) (hlen:J.length+(DJ D).length≤100000000000000):
  Calls Tryz.prog 154 #[.pointer (some ⟨g,0,none⟩),.slice ad nd cd] w fun r w'=>r=.returned (.tuple #[])∧AB w g base most (J++DJ D) a w':=by
 obtain⟨rfl,hm,_,_⟩:=AW hD
 rw[GK] at hfit hlen
 have HV:=hid (DO w h D.length zD zD zD)
 have HD:=hid hD
 have hfit':=hid hfit;have hlen':=hid hlen
 clear h hD hfit hlen;go_enter Tryz.func154,Tryz.ntmps154
 go_wp2_with fail;refine HV.out.mono ?_
 rintro r w2 ⟨rfl,a2,c2,hp2,ht2,ha2⟩;have hs2:=ht2.size
 have HQ:=hid (FH w2 hp2 D ad _ cd (Ah.mono (Ah.keep HD.out fun q hq=>ht2.block q hq.1 hq.2) fun q hq=>An hq.1 hs2) zA8 zA7)
 go_wp2_with fail;refine HQ.out.mono ?_
 rintro r w3 ⟨rfl,hst⟩;have hst2:=AB.trans (J:=J) ht2 ha2 hst
 rw[CT] at hst2
 have HST:=hid hst2
 clear hst hst2;go_wp2;first | go_end0 | refine Ag (Av rfl _ _ _) rfl ?_
 exact⟨rfl,HST.out⟩
theorem Kt(w:World)(D:List UInt8)(a:Option Addr)(n c:Nat)(hl:Ah.r (·<w.heap.size) w [.slice a n c] D)(hlen:D.length≤10000000000000):
  Calls Tryz.prog 134 #[.slice a n c] w fun r w'=>∃v,r=.returned v∧w'.ownsRow w.heap.size 5 1 v (DJ D).length (byteCells (DJ D))∧Below w.heap.size w w':=by
 obtain⟨rfl,hm,_,_⟩:=AW hl
 obtain⟨i0,hi,hz0,hz1,hz2⟩:=A8 Eh
 have HL:=hid hl
 have HV:=hid (Ku D.length zD w)
 have HONE:=hid (A2 D)
 have hvl:=Bm D.length
 have hbl:=hid (GK D)
 have hbd:Hid (DJ D=A1 D.length++D):=hid rfl
 clear hl;generalize A1 D.length=E at*
 go_enter Tryz.func134,Tryz.ntmps134
 go_wp2_with fail;refine HV.out.mono ?_
 rintro r w1 ⟨v,rfl,ho,hb1⟩;obtain⟨a1,c1,rfl⟩:=AP ho
 have hs1:=hb1.size
 have HO:=hid ho
 have HS:=hid (BI (lift HL.out hb1))
 clear ho;go_wp2_with (at_builtin;go_loud (refine Aq rfl _ _ _ rfl w.heap.size 5 i0 (.int .u8 0) 1 1 Tryz.underlying25 hi hz0 hz1 hz2 rfl zS (.slice a1 E.length c1) E.length (byteCells E) rfl HO.out a D.length c (byteCells D) rfl HS.out HONE.out zQ zD zD ?_;intro v' w2 hown2 hgrow2 hat2;have HG:=hid hgrow2;have HO2:=hid hown2;clear hgrow2 hown2 hat2))
 have ho:=HO2.out
 rw[Cr,←hbd.out,show E.length+D.length=(DJ D).length from hbl.out.symm] at ho
 have hB:Below w.heap.size w w2:=Below.grown hb1 HG.out zD (fun g e=>(HO.out.lt g e).1)
 have HV2:=hid ho
 clear ho;go_ret;exact⟨_,rfl,HV2.out,hB⟩
theorem IM(w:World)(b:List UInt8)(a:Option Addr)(n c:Nat)(hl:Ah.r (·<w.heap.size) w [.slice a n c] b)(hlen:b.length≤1048576):
  Calls Tryz.prog 175 #[.slice a n c] w fun r w'=>∃v,r=.returned v∧Ah.r (fun q=>w.heap.size≤q∧q<w'.heap.size) w' [v] (Ci (C7 b))∧Below w.heap.size w w':=by
 obtain⟨rfl,hm,_,_⟩:=AW hl
 have HT:=hid (K9 b a _ c w hl hlen)
 have hri:=GY hlen
 have hl2:=Kg hlen
 clear hl;generalize C7 b=T at*
 go_enter Tryz.func175,Tryz.ntmps175
 go_wp2_with fail;refine HT.out.mono ?_
 rintro r w1 ⟨v,rfl,hr,hb1⟩;obtain⟨a1,c1,hv,hr2,_⟩:=Au hr
 simp only[Aj,At] at hv
 subst hv;have HB:=hid (Ma T a1 _ c1 w1 (IP.mono hr2 fun q hq=>hq.2) hl2 hri)
 have hs1:=hb1.size
 clear hr hr2;go_wp2_with fail;refine HB.out.mono ?_
 rintro r w2 ⟨v2,rfl,hv2,hb2⟩;have hbe:=Af hb2 hb1
 have HV:=hid (Ah.mono (S':=fun q=>w.heap.size≤q∧q<w2.heap.size) hv2 fun q hq=>⟨zZ,hq.2⟩)
 clear hv2;go_wp2;go_ret;exact⟨_,rfl,HV.out,hbe⟩
def Dc(p:List UInt8):List UInt8:=Ci (C7 p)
def EE(p:List UInt8):Bool:=decide ((DJ (Dc p)).length<p.length)
def Cw(p:List UInt8):List UInt8:=A1 p.length++(if EE p then 1::DJ (Dc p) else 0::p)
theorem FG{b:List UInt8}(hb:b.length≤1048576):(Dc b).length≤10000000000000:=by
 have hL:∀t∈C7 b,t.lit.length≤1048576:=fun t ht=>by
  rcases Es (GY hb t ht) with ⟨D,rfl,h1,h2⟩ | ⟨o,m,rfl,_⟩
  ·exact h2
  ·simp
 have h1:=F6 (C7 b)
 have h2:=Hl (C7 b) hL (C7 b).length (Ai _)
 rw[I9] at h2
 have h3:=He b b.length 0 0
 unfold Dc;unfold C7 at*;omega
theorem K8(w:World)(p:List UInt8)(a:Option Addr)(n c:Nat)(hl:Ah.r (·<w.heap.size) w [.slice a n c] p)(hlen:p.length≤1048576):
  Calls Tryz.prog 174 #[.slice a n c] w fun r w'=>r=.returned (.bool (EE p))∧Below w.heap.size w w':=by
 obtain⟨rfl,hm,_,_⟩:=AW hl
 have HT:=hid (IM w p a _ c hl hlen)
 have hsm:=FG hlen
 have hpk:Hid (EE p=decide ((DJ (Dc p)).length<p.length)):=hid rfl
 have hpI:Hid (decide (((DJ (Dc p)).length:Int)<(p.length:Int))=EE p):=hid (by rw[hpk.out];by_cases h:(DJ (Dc p)).length<p.length<;>simp [h])
 clear hl;rw[show Ci (C7 p)=Dc p from rfl] at HT
 generalize Dc p=E at*
 generalize EE p=R at*
 have HB:=hid (fun (W:World) (a1:Option Addr) (c1:Nat) (h:Ah.r (·<W.heap.size) W [.slice a1 E.length c1] E)=>Kt W E a1 _ c1 h hsm)
 generalize DJ E=G at*
 clear hpk;go_enter Tryz.func174,Tryz.ntmps174
 go_wp2_with fail;refine HT.out.mono ?_
 rintro r w1 ⟨v,rfl,hr,hb1⟩;obtain⟨a1,c1,hv,hr2,_⟩:=Au hr
 simp only[Aj,At] at hv
 subst hv;have HR:=hid (Ah.mono hr2 (S':=(·<w1.heap.size)) fun q hq=>hq.2)
 clear hr hr2;go_wp2_with fail;refine (HB.out _ a1 c1 HR.out).mono ?_
 rintro r w2 ⟨v2,rfl,ho,hb2⟩;obtain⟨a2,c2,rfl⟩:=AP ho
 have hbe:=Af hb2 hb1
 clear ho;have hpI':=hpI.out
 clear hpI;cases R
 ·have d1:decide ((G.length:Int)<(p.length:Int))=false:=hpI'
  have d1':decide (G.length<p.length)=false:=by simp at d1;simp;omega
  clear hpI';go_wp2;go_ret;exact⟨rfl,hbe⟩
 ·have d1:decide ((G.length:Int)<(p.length:Int))=true:=hpI'
  have d1':decide (G.length<p.length)=true:=by simp at d1;simp;omega
  clear hpI';go_wp2;go_ret;exact⟨rfl,hbe⟩
theorem LC(w:World)(p:List UInt8)(a:Option Addr)(n c:Nat)(hl:Ah.r (·<w.heap.size) w [.slice a n c] p)(hlen:p.length≤1048576):
  Calls Tryz.prog 153 #[.slice a n c] w fun r w'=>∃v,r=.returned (.tuple #[v,.bool (EE p)])∧(EE p=true→Ah.r (fun q=>w.heap.size≤q∧q<w'.heap.size) w' [v] (Dc p))∧(EE p=false→v=.slice none 0 0)∧Below w.heap.size w w':=by
 obtain⟨rfl,hm,_,_⟩:=AW hl
 have HT:=hid (Mb w p a _ c hl hlen)
 have hsm:=FG hlen
 have hbl:=GK (Dc p)
 have hpk:Hid (EE p=decide ((DJ (Dc p)).length<p.length)):=hid rfl
 clear hl;rw[show Ci (C7 p)=Dc p from rfl] at HT
 generalize Dc p=E at*
 rw[hbl] at hpk
 generalize EE p=R at*
 have HS:=hid (fun (W:World)=>KT E.length zD W)
 have hvl:=Bm E.length
 clear hbl;generalize (A1 E.length).length=k at*
 go_enter Tryz.func153,Tryz.ntmps153
 go_wp2_with fail;refine HT.out.mono ?_
 rintro r w1 ⟨v,rfl,hr,hb1⟩;obtain⟨a1,c1,hv,hr2,_⟩:=Au hr
 simp only[Aj,At] at hv
 subst hv;have HR:=hid hr2
 have hs1:=hb1.size
 clear hr hr2;go_wp2_with fail;refine (HS.out _).mono ?_
 rintro r w2 ⟨rfl,hb2⟩;have hbe:=Af hb2 hb1
 have hs2:=hb2.size
 have HR2:=hid (Ah.mono (S':=fun q=>w.heap.size≤q∧q<w2.heap.size) (Ah.keep HR.out fun q hq=>hb2.block q hq.2) fun q hq=>⟨hq.1,zD⟩)
 have hpk':=hpk.out
 clear hpk;cases R
 ·have hle:¬k+E.length<p.length:=GM hpk'.symm
  have d1:decide ((p.length:Int)≤(k:Int)+(E.length:Int))=true:=Ae zD
  have d1':decide ((p.length:Int)≤((k+E.length:Nat):Int))=true:=Ae zD
  have d1'':decide (p.length≤k+E.length)=true:=Ae zD
  clear hpk' hle;go_wp2;go_ret2
  exact⟨_,rfl,rfl,hbe⟩
 ·have hle:k+E.length<p.length:=Cz hpk'.symm
  have d1:decide ((p.length:Int)≤(k:Int)+(E.length:Int))=false:=Ad zD
  have d1':decide ((p.length:Int)≤((k+E.length:Nat):Int))=false:=Ad zD
  have d1'':decide (p.length≤k+E.length)=false:=Ad zD
  clear hpk' hle;go_wp2;go_ret2
  exact⟨_,rfl,HR2.out,hbe⟩
theorem L2(w:World)(p:List UInt8)(a:Option Addr)(n c:Nat)(hl:Ah.r (·<w.heap.size) w [.slice a n c] p)(hlen:p.length≤1048576):
  Calls Tryz.prog 107 #[.slice a n c] w fun r w'=>∃v,r=.returned v∧Ah.r (fun q=>w.heap.size≤q∧q<w'.heap.size) w' [v] (Cw p)∧Below w.heap.size w w':=by
 obtain⟨rfl,hm,_,_⟩:=AW hl
 obtain⟨i0,hi,hz0,hz1,hz2⟩:=A8 Eh
 have HL:=hid hl
 have HV:=hid (Ku p.length zD w)
 have HPK:=hid (fun (W:World) (hW:Below w.heap.size w W)=>K8 W p a _ c (lift HL.out hW) hlen)
 have HPB:=hid (fun (W:World) (hW:Below w.heap.size w W)=>IM W p a _ c (lift HL.out hW) hlen)
 have hsm:=FG hlen
 have hbk:Hid (Cw p=A1 p.length++(if EE p then 1::DJ (Dc p) else 0::p)):=hid rfl
 have hvl:=Bm p.length
 have HONE:=hid (A2 p)
 clear hl;rw[show Ci (C7 p)=Dc p from rfl] at HPB
 generalize Dc p=E at*
 have HB:=hid (fun (W:World) (av:Option Addr) (cv:Nat) (h:Ah.r (·<W.heap.size) W [.slice av E.length cv] E)=>Kt W E av _ cv h hsm)
 have hgl:=GK E
 have hvE:=Bm E.length
 have hG:(DJ E).length≤20000000000000:=zD
 clear hgl hvE;generalize DJ E=G at*
 generalize A1 p.length=V at*
 generalize EE p=R at*
 generalize Cw p=K at*
 cases R
 ·have hK:K=V++(0::p):=hbk.out
  have HK:=hid hK
  clear hK hbk;go_enter Tryz.func107,Tryz.ntmps107
  go_wp2_with fail;refine HV.out.mono ?_
  rintro r w1 ⟨v,rfl,ho1,hb1⟩;obtain⟨a1,c1,rfl⟩:=AP ho1
  have HO1:=hid ho1
  clear ho1;go_wp2_with fail;refine (HPK.out _ hb1).mono ?_
  rintro r w2 ⟨rfl,hb2⟩;have hs1:=hb1.size
  have hs2:=hb2.size
  have hbw2:=Af hb2 hb1
  have HO2:=hid (AI HO1.out hb2)
  go_wp2_with (first
   | (at_builtin;go_loud (refine Aq rfl _ _ _ rfl w.heap.size 5 i0 (.int .u8 0) 1 1 Tryz.underlying25 hi hz0 hz1 hz2 rfl zS (.slice a1 V.length c1) V.length (byteCells V) rfl (AI HO2.out zC) (some ⟨w2.heap.size,0,none⟩) 1 1 [.int .u8 0] rfl (A9 w2 5 _ rfl rfl rfl) ZL zQ zD zK ?_;intro v' w3 hown3 hgrow3 hat3;obtain⟨a3,c3,rfl⟩:=AP hown3;have HO3:=hid hown3;have hbw3:Below w.heap.size w w3:=(Below.grown zC hgrow3 zK (fun g e=>(HO2.out.lt g e).1));have hs3:w2.heap.size≤w3.heap.size:=(AV zR hgrow3.size);have HS3:=hid (BI (lift HL.out hbw3));clear hgrow3 hown3 hat3))
   | (at_builtin;go_loud (refine Aq rfl _ _ _ rfl w.heap.size 5 i0 (.int .u8 0) 1 1 Tryz.underlying25 hi hz0 hz1 hz2 rfl zS (.slice a3 (V.length+1) c3) (V.length+1) (byteCells V++[.int .u8 0]) rfl HO3.out a p.length c (byteCells p) rfl HS3.out HONE.out zQ zD zD ?_;intro v' w5 hown5 hgrow5 hat5;have HG5:=hid hgrow5;have HO5:=hid hown5;clear hgrow5 hown5 hat5)))
  have ho:=HO5.out
  rw[show [Value.int .u8 0]=byteCells [0] from rfl,Cr,Cr,CT,show [(0:UInt8)]++p=0::p from rfl,←HK.out] at ho
  have hln:V.length+1+p.length=K.length:=by rw[HK.out];simp;omega
  have hV5:=BU hln ho
  have hbF:Below w.heap.size w w5:=Below.grown hbw3 HG5.out zD (fun g e=>(HO3.out.lt g e).1)
  have HV5:=hid hV5
  clear ho hln hV5;go_ret;exact⟨_,rfl,HV5.out,hbF⟩
 ·have hK:K=V++(1::G):=hbk.out
  have HK:=hid hK
  clear hK hbk;go_enter Tryz.func107,Tryz.ntmps107
  go_wp2_with fail;refine HV.out.mono ?_
  rintro r w1 ⟨v,rfl,ho1,hb1⟩;obtain⟨a1,c1,rfl⟩:=AP ho1
  have HO1:=hid ho1
  clear ho1;go_wp2_with fail;refine (HPK.out _ hb1).mono ?_
  rintro r w2 ⟨rfl,hb2⟩;have hs1:=hb1.size
  have hs2:=hb2.size
  have hbw2:=Af hb2 hb1
  have HO2:=hid (AI HO1.out hb2)
  go_wp2_with (at_builtin;go_loud (refine Aq rfl _ _ _ rfl w.heap.size 5 i0 (.int .u8 0) 1 1 Tryz.underlying25 hi hz0 hz1 hz2 rfl zS (.slice a1 V.length c1) V.length (byteCells V) rfl (AI HO2.out zC) (some ⟨w2.heap.size,0,none⟩) 1 1 [.int .u8 1] rfl (A9 w2 5 _ rfl rfl rfl) ZL zQ zD zK ?_;intro v' w3 hown3 hgrow3 hat3;obtain⟨a3,c3,rfl⟩:=AP hown3;have HO3:=hid hown3;have hbw3:Below w.heap.size w w3:=(Below.grown zC hgrow3 zK (fun g e=>(HO2.out.lt g e).1));have hs3:w2.heap.size≤w3.heap.size:=(AV zR hgrow3.size);have HS3:=hid (BI (lift HL.out hbw3));clear hgrow3 hown3 hat3))
  refine (HPB.out _ hbw3).mono ?_
  rintro r w4 ⟨v4,rfl,hr4,hb4⟩;obtain⟨a4,c4,hv4,hr4',_⟩:=Au hr4
  simp only[Aj,At] at hv4
  subst hv4;have HR4:=hid (Ah.mono hr4' (S':=(·<w4.heap.size)) fun q hq=>hq.2)
  clear hr4 hr4';go_wp2_with fail;refine (HB.out _ a4 c4 HR4.out).mono ?_
  rintro r w5 ⟨v5,rfl,ho5,hb5⟩;obtain⟨a5,c5,rfl⟩:=AP ho5
  have hs4:=hb4.size
  have hs5:=hb5.size
  have hb35:=Af hb5 hb4
  have hbw5:=Af hb35 hbw3
  have HS5:=hid (BI (GB rfl ho5))
  have HO5:=hid (AI HO3.out hb35)
  have HONE5:=hid (A2 G)
  clear ho5;go_wp2_with (at_builtin;go_loud (refine Aq rfl _ _ _ rfl w.heap.size 5 i0 (.int .u8 0) 1 1 Tryz.underlying25 hi hz0 hz1 hz2 rfl zS (.slice a3 (V.length+1) c3) (V.length+1) (byteCells V++[.int .u8 1]) rfl HO5.out a5 G.length c5 (byteCells G) rfl HS5.out HONE5.out zQ zD zD ?_;intro v' w6 hown6 hgrow6 hat6;have HG6:=hid hgrow6;have HO6:=hid hown6;clear hgrow6 hown6 hat6))
  have ho:=HO6.out
  rw[show [Value.int .u8 1]=byteCells [1] from rfl,Cr,Cr,CT,show [(1:UInt8)]++G=1::G from rfl,←HK.out] at ho
  have hln:V.length+1+G.length=K.length:=by rw[HK.out];simp;omega
  have hV6:=BU hln ho
  have hbF:Below w.heap.size w w6:=Below.grown hbw5 HG6.out zD (fun g e=>(HO5.out.lt g e).1)
  have HV6:=hid hV6
  clear ho hln hV6;go_ret;exact⟨_,rfl,HV6.out,hbF⟩
theorem Fw{w:World}{g:Nat}{a a1:Option Addr}(h:a1.map Addr.block=a.map Addr.block∨∃q,a1.map Addr.block=some q∧w.heap.size≤q){q:Nat}(hq:q<w.heap.size)(hn:¬DY g a q):¬DY g a1 q:=by
 rw[Lj] at hn ⊢
 intro e;rcases e with e | e
 ·exact hn (.inl e)
 ·rcases h with h | ⟨q',h,h2⟩
  ·exact hn (.inr (h ▸ e))
  ·rw[h] at e;have:=Bo e;omega
theorem Lr(w:World)(y:UInt8):Ah.r (·<(w.alloc (.cells #[.int .u8 (y.toNat:Int)] 5)).heap.size) (w.alloc (.cells #[.int .u8 (y.toNat:Int)] 5)) [.slice (some ⟨w.heap.size,0,none⟩) 1 1] [y]:=
 GB (l:=[y]) rfl (Fx (base:=0) (Am _) (Dj w _))
theorem Pn(w:World){g base most:Nat}{J:List UInt8}{a:Option Addr}{c:Nat}(h:CH w g base most J a c)(p:List UInt8)(ad:Option Addr)(nd cd:Nat)
  (hD:Ah.r (fun q=>q<w.heap.size∧¬DY g a q) w [.slice ad nd cd] p) (hp:p.length≤1048576) (hfit:J.length+(Cw p).length≤most) (hlen:J.length+(Cw p).length≤100000000000000):
  Calls Tryz.prog 74 #[.pointer (some ⟨g,0,none⟩),.slice ad nd cd] w fun r w'=>r=.returned (.tuple #[])∧AB w g base most (J++Cw p) a w':=by
 obtain⟨rfl,hm,_,_⟩:=AW hD
 have d1:decide ((1048576:Int)<(p.length:Int))=false:=Ad zD
 have hbk:Hid (Cw p=A1 p.length++(if EE p then 1::DJ (Dc p) else 0::p)):=hid rfl
 have hvl:(A1 p.length).length≤(Cw p).length:=by rw[hbk.out];simp
 have HV:=hid (DO w h p.length zD zD zD)
 have HPK:=hid (fun (W:World) (hl:Ah.r (·<W.heap.size) W [.slice ad p.length cd] p)=>LC W p ad _ cd hl hp)
 have HD:=hid hD
 have HFIT:=hid hfit;have HLEN:=hid hlen
 clear h hD hfit hlen hvl;generalize EE p=R at*
 generalize Dc p=E at*
 generalize A1 p.length=V at*
 generalize Cw p=K at*
 cases R
 ·have HK:Hid (K=V++(0::p)):=hid hbk.out
  clear hbk;go_enter Tryz.func74,Tryz.ntmps74
  go_wp2_with fail;refine HV.out.mono ?_
  rintro r w1 ⟨rfl,a1,c1,hp1,ht1,ha1⟩;have hs1:=ht1.size
  have hD1:Ah.r (fun q=>q<w1.heap.size∧¬DY g a1 q) w1 [.slice ad p.length cd] p:=Ah.mono (Ah.keep HD.out fun q hq=>ht1.block q hq.1 hq.2) fun q hq=>⟨zD,Fw ha1 hq.1 hq.2⟩
  have HD1:=hid hD1
  clear hD1;go_wp2_with fail;refine (HPK.out _ (Ah.mono HD1.out fun q hq=>hq.1)).mono ?_
  rintro r w2 ⟨v2,rfl,_,hv2,hb2⟩;obtain rfl:=hv2 trivial
  have hs2:=hb2.size
  have hp2:=hp1.later hb2
  go_wp2_with fail;have hbW:Below w2.heap.size w2 (w2.alloc (.cells #[.int .u8 0] 5)):=zC
  have hlit:Ah.r (·<(w2.alloc (.cells #[.int .u8 0] 5)).heap.size) (w2.alloc (.cells #[.int .u8 0] 5)) [.slice (some ⟨w2.heap.size,0,none⟩) 1 1] [0]:=Lr w2 0
  generalize w2.alloc (.cells #[.int .u8 0] 5)=W at*
  have hsW:=hbW.size
  refine (FH W (hp2.later hbW) [0] (some ⟨w2.heap.size,0,none⟩) 1 1 hlit ZX ZW).mono ?_
  rintro r w3 ⟨rfl,a3,c3,hp3,ht3,ha3⟩;have hs3:=ht3.size
  have hD3:Ah.r (·<w3.heap.size) w3 [.slice ad p.length cd] p:=Ah.mono (Ah.keep HD1.out fun q hq=>(ht3.block q zD hq.2).trans ((hbW.block q zD).trans (hb2.block q hq.1))) fun q hq=>by omega
  have HQ:=hid (FH w3 hp3 p ad _ cd hD3 ZX ZW)
  clear hD3 hlit;go_wp2_with fail;refine HQ.out.mono ?_
  rintro r w4 ⟨rfl,hst⟩;have hst2:=AB.trans (J:=J) ht1 ha1 (AB.later hb2 (AB.later hbW (AB.trans (J:=J) ht3 ha3 hst)))
  have HST:Hid (AB w g base most (J++K) a w4):=hid (by rw[HK.out];simpa using hst2)
  clear hst hst2;go_wp2;first | go_end0 | refine Ag (Av rfl _ _ _) rfl ?_
  exact⟨rfl,HST.out⟩
 ·have HK:Hid (K=V++(1::DJ E)):=hid hbk.out
  clear hbk;go_enter Tryz.func74,Tryz.ntmps74
  go_wp2_with fail;refine HV.out.mono ?_
  rintro r w1 ⟨rfl,a1,c1,hp1,ht1,ha1⟩;have hs1:=ht1.size
  have hD1:Ah.r (fun q=>q<w1.heap.size∧¬DY g a1 q) w1 [.slice ad p.length cd] p:=Ah.mono (Ah.keep HD.out fun q hq=>ht1.block q hq.1 hq.2) fun q hq=>⟨zD,Fw ha1 hq.1 hq.2⟩
  have HD1:=hid hD1
  clear hD1;go_wp2_with fail;refine (HPK.out _ (Ah.mono HD1.out fun q hq=>hq.1)).mono ?_
  rintro r w2 ⟨v2,rfl,hv2,_,hb2⟩;obtain⟨a2,c2,hve,hr2,_⟩:=Au (hv2 trivial)
  simp only[Aj,At] at hve
  subst hve;have HE:=hid hr2
  clear hv2 hr2;have hs2:=hb2.size
  have hp2:=hp1.later hb2
  go_wp2_with fail;have hbW:Below w2.heap.size w2 (w2.alloc (.cells #[.int .u8 1] 5)):=zC
  have hlit:Ah.r (·<(w2.alloc (.cells #[.int .u8 1] 5)).heap.size) (w2.alloc (.cells #[.int .u8 1] 5)) [.slice (some ⟨w2.heap.size,0,none⟩) 1 1] [1]:=Lr w2 1
  generalize w2.alloc (.cells #[.int .u8 1] 5)=W at*
  have hsW:=hbW.size
  refine (FH W (hp2.later hbW) [1] (some ⟨w2.heap.size,0,none⟩) 1 1 hlit ZX ZW).mono ?_
  rintro r w3 ⟨rfl,a3,c3,hp3,ht3,ha3⟩;have hs3:=ht3.size
  have hno:∀q,w1.heap.size≤q→¬DY g a1 q:=fun q hq hf=>by have:=(hp1.De hf).2;omega
  have hE3:Ah.r (fun q=>q<w3.heap.size∧¬DY g a3 q) w3 [.slice a2 E.length c2] E:=Ah.mono (Ah.keep HE.out fun q hq=>(ht3.block q zD (hno q hq.1)).trans (hbW.block q zD)) fun q hq=>⟨zD,Fw ha3 zD (hno q hq.1)⟩
  have HQ:=hid (QG w3 hp3 E a2 _ c2 hE3 ZX ZW)
  clear hE3 hlit hno;go_wp2_with fail;refine HQ.out.mono ?_
  rintro r w4 ⟨rfl,hst⟩;have hst2:=AB.trans (J:=J) ht1 ha1 (AB.later hb2 (AB.later hbW (AB.trans (J:=J) ht3 ha3 hst)))
  have HST:Hid (AB w g base most (J++K) a w4):=hid (by rw[HK.out];simpa using hst2)
  clear hst hst2;go_wp2;first | go_end0 | refine Ag (Av rfl _ _ _) rfl ?_
  exact⟨rfl,HST.out⟩
theorem toNat_cast{x:Int}(h:0≤x):((x.toNat:Nat):Int)=x:=Int.toNat_of_nonneg h
def Ho(l:List Int):List UInt8:=(l.map fun x=>A1 x.toNat).flatten
def JQ(pos:Int)(l:List Int):List UInt8:=A1 l.length++Ho (Ec pos l)
def ND(pos:Int):Option Int→List Bv→List UInt8
 | _,[]=>[]
 | p,x::l=>A1 (match p with | none=>x.stream | some q=>x.stream-q-1).toNat++JQ pos x.backs++ND pos (some x.stream) l
def FK(pos:Int)(l:List Bv):List UInt8:=A1 l.length++ND pos none l
theorem JC(x:Int)(l:List Int):Ho (x::l)=A1 x.toNat++Ho l:=by simp[Ho]
theorem KA(l:List Int):(Ho l).length≤10*l.length:=by
 induction l with
 | nil=>simp [Ho]
 | cons x l ih=>
  rw[JC,Ar,Bw]
  have:=(Bm x.toNat).1
  omega
theorem Jo:∀(p:Int) (l:List Int),(Ec p l).length=l.length
 | _,[]=>rfl
 | p,x::l=>by simp only[Ec,Bw,Jo x l]
theorem Ji{x:Nat}(h:x<128):(A1 x).length=1:=by rw[EP h];rfl
theorem NW(pos:Int)(l:List Int)(h:l.length<128):(JQ pos l).length≤1+10*l.length:=by
 have:=KA (Ec pos l)
 rw[Jo] at this
 unfold JQ;rw[Ar,Ji h]
 omega
theorem PZ{α:Type}{A:Rp α}{w w1:World}{g:Nat}{a a1:Option Addr}{cs:List Value}{x:α}(ht:Tch (DY g a) w w1)(ha:a1.map Addr.block=a.map Addr.block∨∃q,a1.map Addr.block=some q∧w.heap.size≤q)
  (h:A.r (fun q=>q<w.heap.size∧¬DY g a q) w cs x):A.r (fun q=>q<w1.heap.size∧¬DY g a1 q) w1 cs x:=
 A.mono (A.keep h fun q hq=>ht.block q hq.1 hq.2) fun q hq=>⟨An hq.1 ht.size,Fw ha hq.1 hq.2⟩
theorem Ky{α:Type}{A:Rp α}{w w1:World}{g:Nat}{a:Option Addr}{cs:List Value}{x:α}(hb:Below w.heap.size w w1)
  (h:A.r (fun q=>q<w.heap.size∧¬DY g a q) w cs x):A.r (fun q=>q<w1.heap.size∧¬DY g a q) w1 cs x:=
 A.mono (A.keep h fun q hq=>hb.block q hq.1) fun q hq=>⟨An hq.1 hb.size,hq.2⟩
theorem Q5{α:Type}{A:Rp α}{w:World}{g:Nat}{a:Option Addr}{cs:List Value}{x:α}(h:A.r (fun q=>q<w.heap.size∧¬DY g a q) w cs x):A.r (·<w.heap.size) w cs x:=A.mono h fun q hq=>hq.1
structure Rs where
 p:Nat
 k:Int
 f:Int
def Rs.fail(s:Rs)(c at_:Int):Rs:=if s.k=0 then ⟨s.p,c,at_⟩ else s
def Rs.skip(L:Nat)(s:Rs)(n:Int):Bool × Rs:=
 if s.k=0 then (if n<0 then (false,⟨s.p,17,s.p⟩) else if (L:Int)-s.p<n then (false,⟨s.p,1,L⟩) else (true,⟨s.p+n.toNat,0,0⟩)) else (false,s)
def Rs.take(B:List UInt8)(s:Rs)(n:Int):Rs × List UInt8:=((s.skip B.length n).2,if (s.skip B.length n).1 then (B.drop s.p).take n.toNat else [])
def Rs.byte(B:List UInt8)(s:Rs):Rs × UInt8:=((s.skip B.length 1).2,if (s.skip B.length 1).1 then B.getD s.p 0 else 0)
structure Rs.ok(s:Rs)(L:Nat):Prop where
 le:s.p≤L
 zero:s.k=0→s.f=0
theorem Rs.BH{s:Rs}{L:Nat}(h:s.ok L){c at_:Int}(hc:c≠0):(s.fail c at_).ok L:=by
 unfold Rs.fail;split
 ·exact⟨h.le,fun e=>absurd e hc⟩
 ·exact h
theorem Rs.Oo{s:Rs}{L:Nat}(h:s.ok L)(n:Int):(s.skip L n).2.ok L:=by
 have:=h.le
 unfold Rs.skip;split
 ·split
  ·exact⟨h.le,fun e=>by simp at e⟩
  ·split
   ·exact⟨h.le,fun e=>by simp at e⟩
   ·exact⟨zF,fun _=>rfl⟩
 ·exact h
theorem Rs.PE{s:Rs}{L:Nat}(h:s.ok L)(n:Int):s.p≤(s.skip L n).2.p:=by
 unfold Rs.skip;split
 ·split
  ·exact Ai _
  ·split
   ·exact Ai _
   ·dsimp only;omega
 ·exact Ai _
theorem Rs.Hg{s:Rs}{B:List UInt8}(h:s.ok B.length)(n:Int):(s.take B n).1.ok B.length:=s.Oo h n
theorem Rs.FP{s:Rs}{B:List UInt8}(h:s.ok B.length):(s.byte B).1.ok B.length:=s.Oo h 1
structure AQ(w:World)(g:Nat)(B:List UInt8)(a:Option Addr)(s:Rs):Prop where
 blk:Blk w g 117 #[.slice a B.length B.length,.int .i64 (s.p:Int),.int .i64 s.k,.int .i64 s.f]
 dat:Ah.r (fun q=>q<w.heap.size∧q≠g) w [.slice a B.length B.length] B
 ok:s.ok B.length
def Az(w:World)(g:Nat)(B:List UInt8)(a:Option Addr)(s':Rs)(w':World):Prop:=AQ w' g B a s'∧Tch (·=g) w w'
section
variable {w w1 w2:World} {g:Nat} {B:List UInt8} {a:Option Addr} {s s':Rs}
theorem AQ.later(h:AQ w g B a s)(hb:Below w.heap.size w w1):AQ w1 g B a s:=
 ⟨h.blk.later hb,Ah.mono (Ah.keep h.dat fun q hq=>hb.block q hq.1) fun q hq=>⟨An hq.1 hb.size,hq.2⟩,h.ok⟩
theorem AQ.len(h:AQ w g B a s):B.length≤9223372036854775807:=(AW h.dat).2.1
theorem Az.later(h:AQ w g B a s)(hb:Below w.heap.size w w1):Az w g B a s w1:=⟨h.later hb,Tch.BV hb⟩
theorem Az.refl(h:AQ w g B a s):Az w g B a s w:=⟨h,Tch.refl _ _⟩
theorem Az.trans(h:Tch (·=g) w w1)(k:Az w1 g B a s' w2):Az w g B a s' w2:=⟨k.1,h.trans k.2 fun _ _ h=>h⟩
theorem Az.then(h:Az w g B a s w1)(hb:Below w1.heap.size w1 w2):Az w g B a s w2:=⟨h.1.later hb,h.2.trans (Tch.BV (F:=(·=g)) hb) fun _ _ h=>h⟩
theorem Az.size(h:Az w g B a s w1):w.heap.size≤w1.heap.size:=h.2.size
theorem Az.below{b:Nat}(h:Az w g B a s w1)(hb:b≤w.heap.size)(hg:b≤g):Below b w w1:=h.2.Dh hb fun q _ e=>e ▸ hg
end
theorem AJ{S:Nat→Prop}{w:World}{a:Option Addr}{m c:Nat}{l:List UInt8}(hl:l=[])(hm:m=0)(hc:c≤9223372036854775807):Ah.r S w [.slice a m c] l:=by
 subst hl hm;exact AM (xs:=[]) rfl (Am _) hc (.inl rfl)
theorem GH{S:Nat→Prop}{w:World}{a:Option Addr}{B:List UInt8}{c:Nat}(h:Ah.r S w [.slice a B.length c] B){lo hi:Nat}(h1:lo≤hi)(h2:hi≤B.length):
  ∃A' c',(∀w':World,(Instr.slice 25 (.slice a B.length c) (some (.int .i64 (lo:Int))) (some (.int .i64 (hi:Int))) none).run Tryz.prog w'=.ok (.slice A' (hi-lo) c') w')∧Ah.r S w [.slice A' (hi-lo) c'] ((B.drop lo).take (hi-lo)):=by
 obtain⟨_,hm,hc,hcm⟩:=AW h
 have g1:(0:Int)≤(lo:Int):=zD
 have g2:(lo:Int)≤(hi:Int):=zD
 have g3:(hi:Int)≤(c:Int):=zD
 rcases Ba lo hi with hlt | hge
 ·obtain⟨ga,oa,hA,hga,_⟩:=Bq h (i:=lo) zD
  subst hA;have hd:=K7 h (k:=lo) zD
  rw[DB] at hd
  have hsub:=Ff hd (k:=hi-lo) zK
  refine⟨some ⟨ga,oa+lo,none⟩,c-lo,fun w'=> ?_,hsub⟩
  have g4:¬c=lo:=zD
  clear h hd hsub;go_simp
 ·obtain rfl:lo=hi:=by omega
  by_cases g4:c=lo
  ·refine⟨a,c-lo,fun w'=> ?_,AJ zR zD zD⟩
   clear h;subst g4;go_simp
  ·refine⟨a.map (·.add (lo*1)),c-lo,fun w'=> ?_,AJ zR zD zD⟩
   clear h;go_simp
theorem RI{S:Nat→Prop}{w:World}{a:Option Addr}{B:List UInt8}{c:Nat}(h:Ah.r S w [.slice a B.length c] B){lo:Nat}(h1:lo≤B.length):
  ∃A' c',(∀w':World,(Instr.slice 25 (.slice a B.length c) (some (.int .i64 (lo:Int))) none none).run Tryz.prog w'=.ok (.slice A' (B.length-lo) c') w')∧Ah.r S w [.slice A' (B.length-lo) c'] (B.drop lo):=by
 obtain⟨_,hm,hc,hcm⟩:=AW h
 have g1:(0:Int)≤(lo:Int):=zD
 have g2:(lo:Int)≤(B.length:Int):=zD
 rcases Ba lo B.length with hlt | hge
 ·obtain⟨ga,oa,hA,hga,_⟩:=Bq h (i:=lo) zD
  subst hA;have hd:=K7 h (k:=lo) zD
  rw[DB] at hd
  refine⟨some ⟨ga,oa+lo,none⟩,c-lo,fun w'=> ?_,hd⟩
  have g4:¬c=lo:=zD
  clear h hd;go_simp
 ·obtain rfl:lo=B.length:=by omega
  by_cases g4:c=B.length
  ·refine⟨a,c-B.length,fun w'=> ?_,AJ zR zD zD⟩
   clear h;subst g4;go_simp
  ·refine⟨a.map (·.add (B.length*1)),c-B.length,fun w'=> ?_,AJ zR zD zD⟩
   clear h;go_simp
theorem Em(w:World)(k f:Int):Calls Tryz.prog 131 #[.agg #[.int .i64 k,.int .i64 f]] w fun r w'=>r=.returned (.bool (decide (k=0)))∧Below w.heap.size w w':=by
 go_enter Tryz.func131,Tryz.ntmps131
 go_wp2;go_ret;exact⟨zBr,zC⟩
theorem Mt(w:World)(k f:Int)(hk:k≠0):Calls Tryz.prog 130 #[.int .i64 k,.int .i64 f] w fun r w'=>r=.returned (.agg #[.int .i64 k,.int .i64 f])∧Below w.heap.size w w':=by
 have d1:(k==(0:Int))=false:=zA6
 go_enter Tryz.func130,Tryz.ntmps130
 go_wp2;refine Ag (v:=.agg #[.int .i64 k,.int .i64 f]) (by simp[results,Tryz.results130,go_sem]) rfl ⟨rfl,zC⟩
theorem Nr(w:World)(B:List UInt8)(a:Option Addr)(n c:Nat)(hl:Ah.r (·<w.heap.size) w [.slice a n c] B):
  Calls Tryz.prog 38 #[.slice a n c] w fun r w'=>r=.returned (.pointer (some ⟨w.heap.size,0,none⟩))∧AQ w' w.heap.size B a ⟨0,0,0⟩∧Below w.heap.size w w':=by
 obtain⟨rfl,hm,hc,hcm⟩:=AW hl
 have hD:Ah.r (fun q=>q<w.heap.size) w [.slice a B.length B.length] B:=by
  obtain⟨a',c',e,h1,h2,h3⟩:=hl
  simp at e
  obtain⟨rfl,rfl⟩:=e
  exact AM rfl (Ai _) (by simp[maxLen];omega) h3
 have HD:=hid hD
 have g1:(B.length:Int)≤(c:Int):=zD
 clear hl hD;go_enter Tryz.func38,Tryz.ntmps38
 go_wp2;go_ret;refine⟨rfl,⟨zB,?_,⟨Am _,fun _=>rfl⟩⟩,zC⟩
 exact Ah.mono (Ah.keep HD.out fun q hq=>Below.heap_alloc _ _ q hq) fun q hq=>⟨zK,zD⟩
theorem AA(w:World){g:Nat}{B:List UInt8}{a:Option Addr}{s:Rs}(h:AQ w g B a s):Calls Tryz.prog 44 #[.pointer (some ⟨g,0,none⟩)] w fun r w'=>r=.returned (.bool (decide (s.k=0)))∧Below w.heap.size w w':=by
 have c2:w.cell? ⟨g,2,none⟩=some (.int .i64 s.k):=h.blk.cell 2
 have c3:w.cell? ⟨g,3,none⟩=some (.int .i64 s.f):=h.blk.cell 3
 clear h;go_enter Tryz.func44,Tryz.ntmps44
 go_wp2_with fail;refine (Em w s.k s.f).mono ?_
 rintro r w1 ⟨rfl,hb⟩;go_wp2;go_ret;exact⟨rfl,hb⟩
theorem Bj(w:World){g:Nat}{B:List UInt8}{a:Option Addr}{s:Rs}(h:AQ w g B a s)(k f:Int)(hk:k≠0):Calls Tryz.prog 180 #[.pointer (some ⟨g,0,none⟩),.int .i64 k,.int .i64 f] w fun r w'=>r=.returned (.tuple #[])∧Az w g B a (s.fail k f) w':=by
 have HG:=hid (AA w h)
 have HH:=hid h
 by_cases h0:s.k=0
 ·have e:s.fail k f=⟨s.p,k,f⟩:=by unfold Rs.fail;rw[Al h0]
  have hr:decide (s.k=0)=true:=Ae h0
  rw[hr] at HG
  rw[e]
  clear h h0 hr e;go_enter Tryz.func180,Tryz.ntmps180
  go_wp2_with fail;refine HG.out.mono ?_
  rintro r w1 ⟨rfl,hb⟩;go_wp2_with fail;refine (Mt w1 k f hk).mono ?_
  rintro r w2 ⟨rfl,hb2⟩;have hb12:=Af hb2 hb
  have h2:=HH.out.later hb12
  have f2:=h2.blk.free 2
  have f3:=h2.blk.free 3
  have c2:=h2.blk.cell 2
  have c3:=h2.blk.cell 3
  have lt:=h2.blk.lt
  simp at c2 c3
  have H2:=hid h2
  have hst:Az w2 g B a ⟨s.p,k,f⟩ ((w2.setCell ⟨g,2,none⟩ (.int .i64 k)).setCell ⟨g,3,none⟩ (.int .i64 f)):=by
   refine⟨⟨(h2.blk.set 2 _).set 3 _,?_,h2.ok.le,fun e=>absurd e hk⟩,Tch.setCell (F:=(·=g)) (Tch.setCell (F:=(·=g)) (Tch.refl _ _) (fun _=>rfl) _) (fun _=>rfl) _⟩
   refine Ah.mono (Ah.keep h2.dat fun q hq=> ?_) fun q hq=>⟨by simp[World.setCell];exact hq.1,hq.2⟩
   rw[Below.heap_setCell _ _ _ _ (fun e=>hq.2 e),Below.heap_setCell _ _ _ _ (fun e=>hq.2 e)]
  have HST:=hid (Az.trans (Tch.BV (F:=(·=g)) hb12) hst)
  clear h2 hst;go_wp2;go_end0
  exact⟨rfl,HST.out⟩
 ·have e:s.fail k f=s:=by unfold Rs.fail;rw[Ak h0]
  have hr:decide (s.k=0)=false:=Ad h0
  rw[hr] at HG
  rw[e]
  clear h h0 hr e;go_enter Tryz.func180,Tryz.ntmps180
  go_wp2_with fail;refine HG.out.mono ?_
  rintro r w1 ⟨rfl,hb⟩;go_wp2;go_end0
  exact⟨rfl,Az.later HH.out hb⟩
theorem Jy(w:World){g:Nat}{B:List UInt8}{a:Option Addr}{s:Rs}(h:AQ w g B a s):Calls Tryz.prog 42 #[.pointer (some ⟨g,0,none⟩)] w fun r w'=>r=.returned (.agg #[.int .i64 s.k,.int .i64 s.f])∧Below w.heap.size w w':=by
 have c2:w.cell? ⟨g,2,none⟩=some (.int .i64 s.k):=h.blk.cell 2
 have c3:w.cell? ⟨g,3,none⟩=some (.int .i64 s.f):=h.blk.cell 3
 have lt:=h.blk.lt
 clear h;go_enter Tryz.func42,Tryz.ntmps42
 go_wp2;refine Ag (v:=.agg #[.int .i64 s.k,.int .i64 s.f]) (by simp[results,Tryz.results42,go_sem]) rfl ⟨rfl,zC⟩
theorem Bz(w:World){g:Nat}{B:List UInt8}{a:Option Addr}{s:Rs}(h:AQ w g B a s):Calls Tryz.prog 43 #[.pointer (some ⟨g,0,none⟩)] w fun r w'=>r=.returned (.int .i64 (s.p:Int))∧w=w':=by
 have c1:w.cell? ⟨g,1,none⟩=some (.int .i64 (s.p:Int)):=h.blk.cell 1
 clear h;go_enter Tryz.func43,Tryz.ntmps43
 go_wp2;go_ret;exact⟨rfl,rfl⟩
theorem Lc(w:World){g:Nat}{B:List UInt8}{a:Option Addr}{s:Rs}(h:AQ w g B a s):Calls Tryz.prog 244 #[.pointer (some ⟨g,0,none⟩)] w fun r w'=>r=.returned (.int .i64 ((B.length:Int)-(s.p:Int)))∧Below w.heap.size w w':=by
 have C0:=fun s:Ay w=>s.cell (h.blk.cell 0)
 have C1:=fun s:Ay w=>s.cell (h.blk.cell 1)
 simp at C0 C1
 have hle:=h.ok.le
 have hle2:=h.len
 clear h;go_enter Tryz.func244,Tryz.ntmps244
 go_wp2_with fail;refine Aw zJ zJ ?_
 repeat (go_big_quiet_step (fail))
 refine AN ?_
 rintro W5 ⟨⟨W5',hb5⟩,rfl⟩;go_wp2;go_ret;exact⟨zBr,hb5⟩
theorem Ov(w:World){g:Nat}{B:List UInt8}{a:Option Addr}{s:Rs}(h:AQ w g B a s)(n:Int)(hn:n≤9223372036854775807):Calls Tryz.prog 233 #[.pointer (some ⟨g,0,none⟩),.int .i64 n] w fun r w'=>r=.returned (.bool (s.skip B.length n).1)∧Az w g B a (s.skip B.length n).2 w':=by
 have HG:=hid (AA w h)
 have HH:=hid h
 have hle:=h.ok.le
 have hle2:=h.len
 by_cases h0:s.k=0
 ·have hr:decide (s.k=0)=true:=Ae h0
  rw[hr] at HG
  by_cases h1:n<0
  ·have e:s.skip B.length n=(false,⟨s.p,17,s.p⟩):=by unfold Rs.skip;rw[Al h0,Al h1]
   have ef:s.fail 17 s.p=⟨s.p,17,s.p⟩:=by unfold Rs.fail;rw[Al h0]
   have d1:decide (n<(0:Int))=true:=Ae h1
   rw[e]
   dsimp only;rw[←ef]
   clear h h0 hr e ef;go_enter Tryz.func233,Tryz.ntmps233
   go_wp2_with fail;refine HG.out.mono ?_
   rintro r w1 ⟨rfl,hb⟩;have hh1:=HH.out.later hb
   have c1:=hh1.blk.cell 1
   simp at c1
   have HF:=hid (Bj w1 hh1 17 s.p zD)
   clear hh1;go_wp2_with fail;refine HF.out.mono ?_
   rintro r w2 ⟨rfl,hst⟩;have HST:=hid (Az.trans (Tch.BV (F:=(·=g)) hb) hst)
   clear hst;go_wp2;go_ret;exact⟨rfl,HST.out⟩
  ·have d1:decide (n<(0:Int))=false:=Ad h1
   by_cases h2:(B.length:Int)-s.p<n
   ·have e:s.skip B.length n=(false,⟨s.p,1,B.length⟩):=by unfold Rs.skip;rw[Al h0,Ak h1,Al h2]
    have ef:s.fail 1 B.length=⟨s.p,1,B.length⟩:=by unfold Rs.fail;rw[Al h0]
    have d2:decide ((B.length:Int)-(s.p:Int)<n)=true:=Ae h2
    rw[e]
    dsimp only;rw[←ef]
    clear h h0 hr e ef;go_enter Tryz.func233,Tryz.ntmps233
    go_wp2_with fail;refine HG.out.mono ?_
    rintro r w1 ⟨rfl,hb⟩;have hh1:=HH.out.later hb
    have HL:=hid (Lc w1 hh1)
    go_wp2_with fail;refine HL.out.mono ?_
    rintro r w2 ⟨rfl,hb2⟩;have hb12:=Af hb2 hb
    have hh2:=HH.out.later hb12
    have c0:=hh2.blk.cell 0
    simp at c0
    have HF:=hid (Bj w2 hh2 1 B.length zD)
    clear hh1 hh2;go_wp2_with fail;refine HF.out.mono ?_
    rintro r w3 ⟨rfl,hst⟩;have HST:=hid (Az.trans (Tch.BV (F:=(·=g)) hb12) hst)
    clear hst;go_wp2;go_ret;exact⟨rfl,HST.out⟩
   ·have e:s.skip B.length n=(true,⟨s.p+n.toNat,0,0⟩):=by unfold Rs.skip;rw[Al h0,Ak h1,Ak h2]
    have d2:decide ((B.length:Int)-(s.p:Int)<n)=false:=Ad h2
    have hz:=h.ok.zero h0
    rw[e]
    obtain⟨m,rfl⟩:∃m:Nat,n=m:=⟨n.toNat,zD⟩
    have e1:((m:Int)).toNat=m:=zD
    rw[e1]
    have hle3:s.p+m≤B.length:=zD
    have HZ:=hid hz;have H0:=hid h0
    clear h h0 hr e e1 hz;go_enter Tryz.func233,Tryz.ntmps233
    go_wp2_with fail;refine HG.out.mono ?_
    rintro r w1 ⟨rfl,hb⟩;have hh1:=HH.out.later hb
    have HL:=hid (Lc w1 hh1)
    go_wp2_with fail;refine HL.out.mono ?_
    rintro r w2 ⟨rfl,hb2⟩;have hb12:=Af hb2 hb
    have hh2:=HH.out.later hb12
    have c1:=hh2.blk.cell 1
    have f1:=hh2.blk.free 1
    have lt:=hh2.blk.lt
    simp at c1
    have hst:Az w2 g B a ⟨s.p+m,0,0⟩ (w2.setCell ⟨g,1,none⟩ (.int .i64 ((s.p:Int)+(m:Int)))):=by
     refine⟨⟨?_,?_,hle3,fun _=>rfl⟩,Tch.setCell (F:=(·=g)) (Tch.refl _ _) (fun _=>rfl) _⟩
     ·have:=hh2.blk.set 1 (.int .i64 ((s.p:Int)+(m:Int)))
      rw[H0.out,HZ.out] at this
      simpa using this
     ·refine Ah.mono (Ah.keep hh2.dat fun q hq=> ?_) fun q hq=>⟨by simp[World.setCell];exact hq.1,hq.2⟩
      rw[Below.heap_setCell _ _ _ _ (fun e=>hq.2 e)]
    have HST:=hid (Az.trans (Tch.BV (F:=(·=g)) hb12) hst)
    clear hh1 hh2 hst;go_wp2;go_ret;exact⟨rfl,HST.out⟩
 ·have e:s.skip B.length n=(false,s):=by unfold Rs.skip;rw[Ak h0]
  have hr:decide (s.k=0)=false:=Ad h0
  rw[hr] at HG
  rw[e]
  clear h h0 hr e;go_enter Tryz.func233,Tryz.ntmps233
  go_wp2_with fail;refine HG.out.mono ?_
  rintro r w1 ⟨rfl,hb⟩;go_wp2;go_ret;exact⟨rfl,Az.later HH.out hb⟩
theorem Rs.EK{s:Rs}{L:Nat}{n:Int}(h:(s.skip L n).1=true):s.k=0∧0≤n∧n≤(L:Int)-s.p∧(s.skip L n).2=⟨s.p+n.toNat,0,0⟩:=by
 unfold Rs.skip at*;split at h
 ·rename_i h0
  split at h
  ·simp at h
  ·split at h
   ·simp at h
   ·rename_i h1 h2
    exact⟨h0,zD,zD,by rw[Al h0,Ak h1,Ak h2]⟩
 ·simp at h
theorem Rs.G2{s:Rs}{L:Nat}{n:Int}(h:(s.skip L n).1=false):(s.skip L n).2.k≠0∧(s.skip L n).2.p=s.p:=by
 unfold Rs.skip at*;split at h
 ·rename_i h0
  split at h
  ·rename_i h1
   rw[Al h0,Al h1];simp
  ·rename_i h1
   split at h
   ·rename_i h2
    rw[Al h0,Ak h1,Al h2];simp
   ·simp at h
 ·rename_i h0
  rw[Ak h0];exact⟨h0,rfl⟩
theorem Ld(w:World){g:Nat}{B:List UInt8}{a:Option Addr}{s:Rs}(h:AQ w g B a s):Calls Tryz.prog 188 #[.pointer (some ⟨g,0,none⟩)] w fun r w'=>r=.returned (.int .u8 ((s.byte B).2.toNat:Int))∧Az w g B a (s.byte B).1 w':=by
 have HS:=hid (Ov w h 1 zD)
 have hle2:=h.len
 unfold Rs.byte;cases hk:(s.skip B.length 1).1
 ·rw[hk] at HS
  generalize (s.skip B.length 1).2=s1 at*
  clear h hk;go_enter Tryz.func188,Tryz.ntmps188
  go_wp2_with fail;refine HS.out.mono ?_
  rintro r w1 ⟨rfl,hst⟩;have HST:=hid hst
  clear hst;go_wp2;go_ret;exact⟨rfl,HST.out⟩
 ·obtain⟨h0,_,h2,h3⟩:=Rs.EK hk
  rw[hk,h3] at HS
  rw[h3]
  have hp:s.p<B.length:=zD
  have hbd:B.getD s.p 0=B[s.p]:=by simp[hp]
  simp only[Dx]
  rw[hbd]
  generalize hx:B[s.p]=x
  have HX:=hid hx
  rw[show s.p+(1:Int).toNat=s.p+1 by omega] at*
  clear h hk h0 h2 h3 hbd hx;go_enter Tryz.func188,Tryz.ntmps188
  go_wp2_with fail;refine HS.out.mono ?_
  rintro r w1 ⟨rfl,hst⟩;obtain⟨ga,oa,hA,hga,hc⟩:=Bq hst.1.dat hp
  rw[HX.out] at hc
  subst hA;have c1:=hst.1.blk.cell 1
  simp at c1
  have C0:=fun s:Ay w1=>s.cell (hst.1.blk.cell 0)
  have C1:=fun s:Ay w1=>s.cell c1
  have CB:=fun s:Ay w1=>s.cell hc
  simp at C0
  have HST:=hid hst
  clear hst hc c1;have i1:(s.p:Int)<(B.length:Int):=zD
  have i2:(0:Int)≤(s.p:Int):=zD
  have hb1:(s.p:Int)≤9223372036854775807:=zD
  go_wp2_with fail;have i3:wrap64 (s.p:Int)=s.p:=by simp only[wrap64];omega
  refine Aw zJ zJ ?_
  repeat (go_big_quiet_step (fail))
  refine AN ?_
  clear i3;rintro W5 ⟨⟨W5',hb5⟩,rfl⟩;go_wp2;go_ret;exact⟨rfl,HST.out.then hb5⟩
theorem Lb(w:World){g:Nat}{B:List UInt8}{a:Option Addr}{s:Rs}(h:AQ w g B a s)(n:Int)(hn:n≤9223372036854775807)(hB:B.length≤1000000000000):Calls Tryz.prog 198 #[.pointer (some ⟨g,0,none⟩),.int .i64 n] w fun r w'=>∃v,r=.returned v∧Ah.r (fun q=>w.heap.size≤q∧q<w'.heap.size) w' [v] (s.take B n).2∧Az w g B a (s.take B n).1 w':=by
 have HS:=hid (Ov w h n hn)
 unfold Rs.take;cases hk:(s.skip B.length n).1
 ·rw[hk] at HS
  generalize (s.skip B.length n).2=s1 at*
  clear h hk;go_enter Tryz.func198,Tryz.ntmps198
  go_wp2_with fail;refine HS.out.mono ?_
  rintro r w1 ⟨rfl,hst⟩;have HST:=hid hst
  clear hst;go_wp2;go_ret;exact⟨_,rfl,AJ rfl rfl zD,HST.out⟩
 ·obtain⟨h0,h1,h2,h3⟩:=Rs.EK hk
  rw[hk,h3] at HS
  rw[h3]
  obtain⟨m,rfl⟩:∃m:Nat,n=m:=⟨n.toNat,zD⟩
  rw[show ((m:Int)).toNat=m by omega] at*
  obtain⟨i0,hi,hz0,hz1,hz2⟩:=A8 Eh
  have hp:s.p+m≤B.length:=by have:=h.ok.le;omega
  simp only[Dx]
  clear h hk h0 h1 h2 h3;go_enter Tryz.func198,Tryz.ntmps198
  go_wp2_with fail;refine HS.out.mono ?_
  rintro r w1 ⟨rfl,hst⟩;obtain⟨aD,cD,hsl,hsub⟩:=GH hst.1.dat (lo:=s.p) (hi:=s.p+m) zD hp
  have hlD:((B.drop s.p).take (s.p+m-s.p)).length=m:=zK
  rw[show s.p+m-s.p=m by omega] at hsl hsub hlD
  generalize hDe:(B.drop s.p).take m=D at*
  have HDE:=hid hDe
  clear hDe;have hDm:m=D.length:=hlD.symm
  obtain⟨P1,hP1⟩:∃P1:Nat,P1=s.p+m:=⟨_,rfl⟩
  rw[←hP1,show (s.p:Int)=(P1:Int)-(m:Int) by omega] at hsl
  have HSB:=hid (fun (W:World) (hW:Below w1.heap.size w1 W)=>BI (l:=D) (lift (w:=w1) (A:=Ah) (cs:=[.slice aD D.length cD]) zCj hW))
  have HONE:=hid (A2 D)
  have c1:=hst.1.blk.cell 1
  have c0:=hst.1.blk.cell 0
  simp at c0
  rw[←hP1] at c1 hst hp
  simp at c1
  have lt:=hst.1.blk.lt
  have HST:=hid hst
  have HDM:=hid hDm
  have hs1:=hst.size
  have HP1:=hid hP1
  have hPm:m≤P1:=zD
  clear hst hsub hlD hDm hP1;have hb1:(P1:Int)≤9223372036854775807:=zD
  go_wp2_with fail;have j1:IntKind.i64.wrap ((P1:Int)-(m:Int))=(P1:Int)-(m:Int):=IntWalk.i64_in _ zD
  go_region_held3 (fun w'=>w'.cell? ⟨g,0,none⟩=some (.slice a B.length B.length)∧w'.cell? ⟨g,1,none⟩=some (.int .i64 (P1:Int))) (((try dsimp only);refine⟨?_,?_⟩<;>(first | assumption | (go_keep;done))))
   ((go_loud (refine CO zX _ _ _ zX w1.heap.size 5 i0 (.int .u8 0) 1 1 Tryz.underlying25 hi hz0 hz1 hz2 rfl zS _ 0 [] zX (EL _ zR zX) aD m cD (byteCells D) zX zV HONE.out (by clear j1;simp only[maxLen];omega) (by clear j1;omega) zR ?_;intro a5 c5 w5 hown5 hgrow5 hat5;rw[BP] at hown5;have k5:Below w1.heap.size w1 w5:=Below.grown zC hgrow5 zR (fun g e=>by {have e':some w1.heap.size=some g:=e;injection e' with e';clear j1;omega});have e0:=(k5.cell (p:=⟨g,0,none⟩) lt).trans c0;have e1:=(k5.cell (p:=⟨g,1,none⟩) lt).trans c1;have HK5:=hid k5;have HO5:=hid hown5;clear hown5 hgrow5 hat5 k5)))
  all_goals
   clear j1;have ho:=HO5.out
   rw[B9] at ho
   have hA:=BU HDM.out ho
   have HA:=hid hA
   clear ho hA;go_wp2;go_ret;refine⟨_,rfl,?_,?_⟩
   ·rw[HDE.out]
    exact Ah.mono HA.out fun q hq=>⟨zD,hq.2⟩
   ·rw[←HP1.out]
    exact HST.out.then HK5.out
theorem PQ(w:World){g:Nat}{B:List UInt8}{a:Option Addr}{s:Rs}(h:AQ w g B a s)(at_:Nat)(hat:at_≤s.p)(hB:B.length≤1000000000000):Calls Tryz.prog 201 #[.pointer (some ⟨g,0,none⟩),.int .i64 (at_:Int)] w fun r w'=>∃v,r=.returned v∧Ah.r (fun q=>w.heap.size≤q∧q<w'.heap.size) w' [v] ((B.drop at_).take (s.p-at_))∧Below w.heap.size w w':=by
 obtain⟨i0,hi,hz0,hz1,hz2⟩:=A8 Eh
 have hp:s.p≤B.length:=h.ok.le
 obtain⟨aD,cD,hsl,hsub⟩:=GH h.dat (lo:=at_) (hi:=s.p) hat hp
 have hlD:((B.drop at_).take (s.p-at_)).length=s.p-at_:=zK
 obtain⟨m,hm⟩:∃m:Nat,m=s.p-at_:=⟨_,rfl⟩
 rw[←hm] at hsl hsub hlD ⊢
 generalize (B.drop at_).take m=D at*
 have hDm:m=D.length:=hlD.symm
 have HSB:=hid (fun (W:World) (hW:Below w.heap.size w W)=>BI (l:=D) (lift (w:=w) (A:=Ah) (cs:=[.slice aD D.length cD]) zCj hW))
 have HONE:=hid (A2 D)
 have c1:=h.blk.cell 1
 have c0:=h.blk.cell 0
 simp at c0 c1
 have lt:=h.blk.lt
 have HDM:=hid hDm
 generalize s.p=P1 at*
 have d1:decide ((at_:Int)<0)=false:=Ad zD
 have d2:decide ((P1:Int)<(at_:Int))=false:=Ad zD
 have d3:decide (P1<at_)=false:=Ad zD
 have hmB:m≤B.length:=zD
 clear h hsub hlD hDm hm;go_enter Tryz.func201,Tryz.ntmps201
 go_wp2_with fail;go_region_held3 (fun w'=>w'.cell? ⟨g,0,none⟩=some (.slice a B.length B.length)∧w'.cell? ⟨g,1,none⟩=some (.int .i64 (P1:Int))) (((try dsimp only);refine⟨?_,?_⟩<;>(first | assumption | (go_keep;done))))
  ((go_loud (refine CO zX _ _ _ zX w.heap.size 5 i0 (.int .u8 0) 1 1 Tryz.underlying25 hi hz0 hz1 hz2 rfl zS _ 0 [] zX (EL _ zR zX) aD m cD (byteCells D) zX zV HONE.out zQ zD zR ?_;intro a5 c5 w5 hown5 hgrow5 hat5;rw[BP] at hown5;have k5:Below w.heap.size w w5:=Below.grown zC hgrow5 zR (fun g e=>zBu);have e0:=(k5.cell (p:=⟨g,0,none⟩) lt).trans c0;have e1:=(k5.cell (p:=⟨g,1,none⟩) lt).trans c1;have HK5:=hid k5;have HO5:=hid hown5;clear hown5 hgrow5 hat5 k5)))
 all_goals
  have ho:=HO5.out
  rw[B9] at ho
  have hA:=BU HDM.out ho
  have HA:=hid hA
  clear ho hA;go_wp2;go_ret;exact⟨_,rfl,HA.out,HK5.out⟩
def CV(a:Option Addr)(n c:Nat)(s:Rs):Value:=.agg #[.slice a n c,.int .i64 (s.p:Int),.int .i64 s.k,.int .i64 s.f]
theorem Ap{w:World}{g:Nat}{t:TypeId}{v0 v1 v2 v3:Value}(h:Blk w g t #[v0,v1,v2,v3]):w.cell? ⟨g,0,none⟩=some v0∧w.cell? ⟨g,1,none⟩=some v1∧w.cell? ⟨g,2,none⟩=some v2∧w.cell? ⟨g,3,none⟩=some v3∧w.frozen? ⟨g,0,none⟩=false∧w.frozen? ⟨g,1,none⟩=false∧w.frozen? ⟨g,2,none⟩=false∧w.frozen? ⟨g,3,none⟩=false∧g<w.heap.size:=
 ⟨h.cell 0,h.cell 1,h.cell 2,h.cell 3,h.free 0,h.free 1,h.free 2,h.free 3,h.lt⟩
theorem CQ{w:World}{g:Nat}{t:TypeId}{v0 v1:Value}(h:Blk w g t #[v0,v1]):w.cell? ⟨g,0,none⟩=some v0∧w.cell? ⟨g,1,none⟩=some v1∧w.frozen? ⟨g,0,none⟩=false∧w.frozen? ⟨g,1,none⟩=false∧g<w.heap.size:=
 ⟨h.cell 0,h.cell 1,h.free 0,h.free 1,h.lt⟩
theorem Ed(w:World)(k f:Int)(hk:k≠0):Calls Tryz.prog 142 #[.int .i64 k,.int .i64 f] w fun r w'=>r=.returned (.agg #[.int .i64 k,.int .i64 f])∧Below w.heap.size w w':=by
 have d1:(k==(0:Int))=false:=zA6
 have d2:(k !=(0:Int))=true:=zA6
 go_enter Tryz.func142,Tryz.ntmps142
 go_wp2;refine Ag (v:=.agg #[.int .i64 k,.int .i64 f]) (by simp[results,Tryz.results142,go_sem]) rfl ⟨rfl,zC⟩
theorem Bg(w:World)(a:Option Addr)(n c:Nat)(s:Rs)(k f:Int)(hk:k≠0):Calls Tryz.prog 120 #[CV a n c s,.int .i64 k,.int .i64 f] w fun r w'=>r=.returned (CV a n c (s.fail k f))∧Below w.heap.size w w':=by
 unfold CV;by_cases h0:s.k=0
 ·have e:s.fail k f=⟨s.p,k,f⟩:=by unfold Rs.fail;rw[Al h0]
  have d1:(s.k==(0:Int))=true:=by simp[h0]
  have H0:=hid h0
  rw[e]
  clear h0 e;go_enter Tryz.func120,Tryz.ntmps120
  go_wp2_with fail;refine (Ed _ k f hk).mono ?_
  rintro r w1 ⟨rfl,hb⟩;have B0:Blk w1 w.heap.size 60 #[.slice a n c,.int .i64 (s.p:Int),.int .i64 s.k,.int .i64 s.f]:=Blk.later zB hb
  have B1:Blk w1 (w.heap.size+1) 60 #[.slice none 0 0,.int .i64 0,.int .i64 0,.int .i64 0]:=Blk.later zB hb
  have x0:=B0.cell 0;have x1:=B0.cell 1;have x2:=B0.cell 2;have x3:=B0.cell 3
  have y0:=B1.cell 0;have y1:=B1.cell 1;have y2:=B1.cell 2;have y3:=B1.cell 3
  simp at x0 x1 x2 x3 y0 y1 y2 y3
  have f2:=B0.free 2;have f3:=B0.free 3
  have g0:=B1.free 0;have g1:=B1.free 1;have g2:=B1.free 2;have g3:=B1.free 3
  have l0:=B0.lt;have l1:=B1.lt
  have hbw:Below w.heap.size w w1:=zC
  clear B0 B1 hb;go_wp2;refine Ag (v:=.agg #[.slice a n c,.int .i64 (s.p:Int),.int .i64 k,.int .i64 f]) (by simp[results,Tryz.results120,go_sem,y0,y1,y2,y3,l1]) rfl ⟨rfl,zA⟩
 ·have e:s.fail k f=s:=by unfold Rs.fail;rw[Ak h0]
  have d1:(s.k==(0:Int))=false:=by simp[h0]
  have H0:=hid h0
  rw[e]
  clear h0 e;go_enter Tryz.func120,Tryz.ntmps120
  go_wp2;refine Ag (v:=.agg #[.slice a n c,.int .i64 (s.p:Int),.int .i64 s.k,.int .i64 s.f]) (by simp[results,Tryz.results120,go_sem]) rfl ⟨rfl,zC⟩
theorem EU(w:World)(a:Option Addr)(c:Nat)(B:List UInt8)(hl:Ah.r (·<w.heap.size) w [.slice a B.length c] B)(s:Rs)(hs:s.ok B.length)(n:Int)(hn:n≤9223372036854775807)(hB:B.length≤1000000000000):
  Calls Tryz.prog 123 #[CV a B.length c s,.int .i64 n] w fun r w'=>∃v,r=.returned (.tuple #[CV a B.length c (s.take B n).1,v])∧Ah.r (fun q=>w.heap.size≤q∧q<w'.heap.size) w' [v] (s.take B n).2∧Below w.heap.size w w':=by
 obtain⟨i0,hi,hz0,hz1,hz2⟩:=A8 Eh
 unfold Rs.take;have hle:=hs.le
 by_cases h0:s.k=0
 ·have d0:(s.k !=(0:Int))=false:=by simp[h0]
  have hF:=hid (fun (W:World) (k f:Int) (hk:k≠0)=>Bg W a B.length c s k f hk)
  by_cases h1:n<0
  ·have e:s.skip B.length n=(false,s.fail 17 s.p):=by unfold Rs.skip Rs.fail;rw[Al h0,Al h1,Al h0]
   have d1:decide (n<(0:Int))=true:=Ae h1
   rw[e]
   generalize hs1:s.fail 17 s.p=s1
   have HF:=hid (fun (W:World)=>hF.out W 17 s.p zD)
   rw[hs1] at HF
   clear hl hs h0 e hF;unfold CV at*;go_enter Tryz.func123,Tryz.ntmps123
   go_wp2_with fail;refine (HF.out _).mono ?_
   rintro r w1 ⟨rfl,hb⟩;have B1:Blk w1 (w.heap.size+1) 60 #[.slice none 0 0,.int .i64 0,.int .i64 0,.int .i64 0]:=Blk.later zB hb
   obtain⟨y0,y1,y2,y3,g0,g1,g2,g3,l1⟩:=Ap B1
   have hbw:Below w.heap.size w w1:=zA
   clear B1 hb;go_wp2;refine Ag (v:=.tuple #[.agg #[.slice a B.length c,.int .i64 (s1.p:Int),.int .i64 s1.k,.int .i64 s1.f],.slice none 0 0]) zAo rfl ⟨_,rfl,AJ rfl rfl zD,zA⟩
  ·have d1:decide (n<(0:Int))=false:=Ad h1
   by_cases h2:(B.length:Int)-s.p<n
   ·have e:s.skip B.length n=(false,s.fail 1 B.length):=by unfold Rs.skip Rs.fail;rw[Al h0,Ak h1,Al h2,Al h0]
    have d2:decide ((B.length:Int)-(s.p:Int)<n)=true:=Ae h2
    rw[e]
    generalize hs1:s.fail 1 B.length=s1
    have HF:=hid (fun (W:World)=>hF.out W 1 B.length zD)
    rw[hs1] at HF
    clear hl hs h0 e hF;unfold CV at*;go_enter Tryz.func123,Tryz.ntmps123
    go_wp2_with fail;refine (HF.out _).mono ?_
    rintro r w1 ⟨rfl,hb⟩;have B1:Blk w1 (w.heap.size+1) 60 #[.slice none 0 0,.int .i64 0,.int .i64 0,.int .i64 0]:=Blk.later zB hb
    obtain⟨y0,y1,y2,y3,g0,g1,g2,g3,l1⟩:=Ap B1
    have hbw:Below w.heap.size w w1:=zA
    clear B1 hb;go_wp2;refine Ag (v:=.tuple #[.agg #[.slice a B.length c,.int .i64 (s1.p:Int),.int .i64 s1.k,.int .i64 s1.f],.slice none 0 0]) zAo rfl ⟨_,rfl,AJ rfl rfl zD,zA⟩
   ·have e:s.skip B.length n=(true,⟨s.p+n.toNat,0,0⟩):=by unfold Rs.skip;rw[Al h0,Ak h1,Ak h2]
    have d2:decide ((B.length:Int)-(s.p:Int)<n)=false:=Ad h2
    have hz:=hs.zero h0
    rw[e]
    obtain⟨m,rfl⟩:∃m:Nat,n=m:=⟨n.toNat,zD⟩
    rw[show ((m:Int)).toNat=m by omega]
    have hp:s.p+m≤B.length:=zD
    simp only[Dx]
    obtain⟨aD,cD,hsl,hsub⟩:=GH hl (lo:=s.p) (hi:=s.p+m) zD hp
    have hlD:((B.drop s.p).take (s.p+m-s.p)).length=m:=zK
    rw[show s.p+m-s.p=m by omega] at hsl hsub hlD
    rw[show ((s.p+m:Nat):Int)=(s.p:Int)+(m:Int) by omega] at hsl
    generalize (B.drop s.p).take m=D at*
    have hDm:m=D.length:=hlD.symm
    have HSB:=hid (fun (W:World) (hW:Below w.heap.size w W)=>BI (l:=D) (lift (w:=w) (A:=Ah) (cs:=[.slice aD D.length cD]) (by rw[←hDm];exact hsub) hW))
    have HONE:=hid (A2 D)
    have HDM:=hid hDm
    have H0:=hid h0;have HZ:=hid hz
    clear hl hs h0 hz e hsub hlD hDm;unfold CV;go_enter Tryz.func123,Tryz.ntmps123
    go_wp2_with (at_builtin;go_loud (refine Aq rfl _ _ _ rfl (w.heap.size+2) 5 i0 (.int .u8 0) 1 1 Tryz.underlying25 hi hz0 hz1 hz2 rfl zS (.slice none 0 0) 0 [] rfl ⟨rfl,.inl ⟨rfl,rfl⟩⟩ aD m cD (byteCells D) rfl zV HONE.out zQ zD zE ?_;intro v' w2 hown2 hgrow2 hat2;rw[BP,B9] at hown2;obtain⟨a2,c2,rfl⟩:=AP hown2;have k2:=Below.grown (Below.refl _ _) hgrow2 (Ai _) (fun g e=>by cases e);have B0:Blk w2 w.heap.size 60 #[.slice a B.length c,.int .i64 (s.p:Int),.int .i64 s.k,.int .i64 s.f]:=Blk.later zB k2;have B1:Blk w2 (w.heap.size+1) 60 #[.slice none 0 0,.int .i64 0,.int .i64 0,.int .i64 0]:=Blk.later zB k2;obtain⟨x0,x1,x2,x3,e0,e1,e2,e3,l0⟩:=Ap B0;obtain⟨y0,y1,y2,y3,g0,g1,g2,g3,l1⟩:=Ap B1;have hbw:Below w.heap.size w w2:=by {(repeat (first | with_reducible exact Below.refl _ _ | with_reducible assumption | (with_reducible refine As ?_ _) | (with_reducible refine Below.setCell ?_ (by first | omega | (simp;done) | (simp;omega)) _) | (with_reducible refine Below.drew ?_) | (with_reducible refine below_drewN ?_ _) | (refine Af (by with_reducible assumption) ?_)))};have HO:=hid hown2;clear hown2 hgrow2 hat2 B0 B1 k2))
    have hA:=BU HDM.out HO.out
    have HA:=hid hA
    clear hA;refine Ag (v:=.tuple #[.agg #[.slice a B.length c,.int .i64 ((s.p:Int)+(m:Int)),.int .i64 s.k,.int .i64 s.f],.slice a2 m c2]) zAo rfl ⟨_,by rw[H0.out,HZ.out],?_,zA⟩
    refine Ah.mono (Ah.keep HA.out fun q hq=> ?_) fun q hq=>⟨zD,zBb⟩
    repeat (rw[Below.heap_setCell _ _ _ _ zF])
 ·have d0:(s.k !=(0:Int))=true:=by simp[h0]
  have e:s.skip B.length n=(false,s):=by unfold Rs.skip;rw[Ak h0]
  rw[e]
  clear hl hs h0 e;unfold CV;go_enter Tryz.func123,Tryz.ntmps123
  go_wp2;refine Ag (v:=.tuple #[.agg #[.slice a B.length c,.int .i64 (s.p:Int),.int .i64 s.k,.int .i64 s.f],.slice none 0 0]) (by simp[results,Tryz.results123,go_sem]) rfl ⟨_,rfl,AJ rfl rfl zD,zA⟩
def CI:Nat→Nat→List UInt8→Nat × Nat × Int
 | i,x,[]=>(0,i,1)
 | i,x,c::l=>
  if i=9∧1<c.toNat then (0,i+1,5)
  else if 0<i∧c.toNat=0 then (0,i+1,4)
  else if c.toNat<128 then (x+c.toNat*128^i,i+1,0)
  else CI (i+1) (x+c.toNat%128*128^i) l
def Rs.num(B:List UInt8)(s:Rs):Rs × Nat:=
 if s.k=0 then
  let r:=CI 0 0 (B.drop s.p)
  (⟨s.p+r.2.1,r.2.2,if r.2.2=0 then 0 else if r.2.2=1 then B.length else s.p+r.2.1-1⟩,r.1)
 else (s,0)
theorem EJ:∀(l:List UInt8) (i x:Nat),(CI i x l).2.1≤i+l.length∧i≤(CI i x l).2.1∧((CI i x l).2.2=0∨(CI i x l).2.2=1∨(CI i x l).2.2=4∨(CI i x l).2.2=5)∧((CI i x l).2.2=1→(CI i x l).2.1=i+l.length)∧((CI i x l).2.2≠1→i<(CI i x l).2.1)
 | [],i,x=>by simp[CI]
 | c::l,i,x=>by
  unfold CI;split
  ·simp
  ·split
   ·simp
   ·split
    ·simp
    ·have:=EJ l (i+1) (x+c.toNat%128*128^i)
     refine⟨zK,zD,this.2.2.1,fun h=>by have:=this.2.2.2.1 h;simp;omega,fun h=>by have:=this.2.2.2.2 h;omega⟩
theorem Rs.Cm{B:List UInt8}{s:Rs}(h:s.ok B.length):(s.num B).1.ok B.length:=by
 unfold Rs.num;split
 ·have:=EJ (B.drop s.p) 0 0
  have hl:(B.drop s.p).length=B.length-s.p:=zR
  refine⟨by dsimp only;have:=h.le;omega,fun e=>by dsimp only at e ⊢;rw[Al e]⟩
 ·exact h
theorem Rs.Qg{B:List UInt8}{s:Rs}:s.p≤(s.num B).1.p:=by
 unfold Rs.num;split
 ·dsimp only;omega
 ·exact Ai _
theorem Rs.Fh{B:List UInt8}{s:Rs}(h:(s.num B).1.k≠0):(s.num B).2=0:=by
 have key:∀(l:List UInt8) (i x:Nat),(CI i x l).2.2≠0→(CI i x l).1=0:=by
  intro l;induction l with
  | nil=>intro i x h;rfl
  | cons c l ih=>
   intro i x h;unfold CI at h ⊢;split
   ·rfl
   ·rename_i h1
    rw[Ak h1] at h
    split
    ·rfl
    ·rename_i h2
     rw[Ak h2] at h
     split
     ·rename_i h3
      rw[Al h3] at h;simp at h
     ·rename_i h3
      rw[Ak h3] at h
      exact ih _ _ h
 unfold Rs.num at*;split
 ·rename_i h0
  rw[Al h0] at h
  exact key _ _ _ h
 ·rfl
theorem GW:∀(l:List UInt8) (i x:Nat),i≤9→x<128^i→(CI i x l).1<18446744073709551616
 | [],i,x,_,_=>by simp[CI]
 | c::l,i,x,hi,hx=>by
  unfold CI;have hc:=c.toNat_lt
  split
  ·simp
  ·rename_i h9
   split
   ·simp
   ·split
    ·rename_i h3
     dsimp only;by_cases h:i=9
     ·subst h
      have:c.toNat≤1:=zD
      have h1:c.toNat*128^9≤1*128^9:=Cf _ this
      have h2:(128:Nat)^9=9223372036854775808:=zS
      rw[h2] at*
      omega
     ·have h1:c.toNat*128^i≤127*128^i:=Cf _ zD
      have h2:(128:Nat)^i≤128^8:=Nat.pow_le_pow_right zD zD
      have h3:(128:Nat)^8=72057594037927936:=zS
      rw[h3] at h2
      omega
    ·rename_i h3
     have h9':i≠9:=fun e=>h9 ⟨e,zD⟩
     refine GW l (i+1) _ zD ?_
     have h1:c.toNat%128*128^i≤127*128^i:=Cf _ zD
     rw[Nat.pow_succ]
     omega
theorem Rs.Ch{B:List UInt8}{s:Rs}:(s.num B).2<18446744073709551616:=by
 unfold Rs.num;split
 ·exact GW _ 0 0 zD zR
 ·simp
end Go.Proofs.YtlbffbkbkajciaaGreat
namespace Go.Bs
open Go.RowKit
def KD(J:Nat→Act→World→Prop)(Q:Exit→Act→World→Prop):Exit→Act→World→Prop
 | .goto l,a,w=>J l a w
 | e,a,w=>Q e a w
section
variable {P:Program} {a:Act} {w:World} {Q:Exit→Act→World→Prop}
theorem J0{c:Code}(J:Nat→Act→World→Prop)(μ:Nat→Act→World→Nat)
  (pass:∀l a w,J l a w→∃rest,findLabel c l=some rest∧rest.wp P (KD (fun l' a' w'=>J l' a' w'∧μ l' a' w'<μ l a w) Q) a w)
  (first:c.wp P (KD J Q) a w):(Code.scope c).wp P Q a w:=by
 intro b k cs;have hg:∀{l rest},findLabel c l=some rest→gotoIn l (.inScope c::k)=some (.code rest:: .inScope c::k):=fun hf=>by simp[gotoIn,hf]
 have key:∀n l a w rest,findLabel c l=some rest→μ l a w=n→J l a w→∃e a' w',Q e a' w'∧Arrives P (lone (b.at a (.code rest:: .inScope c::k)) cs w) b k cs e a' w':=by
  intro n;induction n using Nat.strongRecOn with
  | _ n ih=>
   intro l a w rest hf hn hJ;obtain⟨rest',hf',hp⟩:=pass l a w hJ
   obtain rfl:rest'=rest:=Bo (hf'.symm.trans hf)
   obtain⟨e,a₁,w₁,hq,harr⟩:=hp b (.inScope c::k) cs
   cases e with
   | normal=>exact ⟨.normal,a₁,w₁,hq,Steps.trans harr (.one step_inScope)⟩
   | exit id=>exact ⟨.exit id,a₁,w₁,hq,fun k' hk=>harr k' (by simp[exitTo,hk])⟩
   | goto l'=>
    obtain⟨hJ',hlt⟩:=hq
    obtain⟨rest2,hf2,_⟩:=pass l' a₁ w₁ hJ'
    obtain⟨e₂,a₂,w₂,hq₂,harr₂⟩:=ih _ zD l' a₁ w₁ rest2 hf2 rfl hJ'
    exact⟨e₂,a₂,w₂,hq₂,.of_steps (harr _ (hg hf2)) harr₂⟩
   | ret=>exact ⟨_,a₁,w₁,hq,harr⟩
   | panic ch=>exact ⟨_,a₁,w₁,hq,harr⟩
   | outgrown=>exact ⟨_,a₁,w₁,hq,harr⟩
 obtain⟨e,a₁,w₁,hq,harr⟩:=first b (.inScope c::k) cs
 cases e with
 | normal=>exact ⟨.normal,a₁,w₁,hq,.head step_scope (Steps.trans harr (.one step_inScope))⟩
 | exit id=>exact ⟨.exit id,a₁,w₁,hq,fun k' hk=> .head step_scope (harr k' (by simp[exitTo,hk]))⟩
 | goto l'=>
  obtain⟨rest2,hf2,_⟩:=pass l' a₁ w₁ hq
  obtain⟨e₂,a₂,w₂,hq₂,harr₂⟩:=key _ l' a₁ w₁ rest2 hf2 rfl hq
  exact⟨e₂,a₂,w₂,hq₂,.of_steps (.head step_scope (harr _ (hg hf2))) harr₂⟩
 | ret=>exact ⟨_,a₁,w₁,hq,.of_steps (.one step_scope) harr⟩
 | panic ch=>exact ⟨_,a₁,w₁,hq,.of_steps (.one step_scope) harr⟩
 | outgrown=>exact ⟨_,a₁,w₁,hq,.of_steps (.one step_scope) harr⟩
theorem F5{c:Code}(h:c.wp P Q a w):(Code.skip.seq c).wp P Q a w:=wp_seq (wp_skip h)
theorem Je{c rest:Code}(l:Nat)(J:Act→World→Prop)(μ:Act→World→Nat)(hf:findLabel c l=some (Code.skip.seq rest))
  (pass:∀a w,J a w→rest.wp P (Exit.jump l (fun a' w'=>J a' w'∧μ a' w'<μ a w) Q) a w)
  (first:∀K:Exit→Act→World→Prop,(∀a w,J a w→rest.wp P K a w)→c.wp P K a w):(Code.scope c).wp P Q a w:=
 wp_scope_jumps l J μ hf (first _ fun a w h=>wp_mono (pass a w h) fun e a' w' hq=>by
  cases e<;>first | exact hq | exact⟨hq.1,hq.2.1⟩) fun a w h=>F5 (pass a w h)
theorem KX{c rest rest2:Code}(l m:Nat)(hlm:l≠m)(J J2:Act→World→Prop)(μ:Act→World→Nat)(hf:findLabel c l=some (Code.skip.seq rest))(hf2:findLabel c m=some (Code.skip.seq rest2))
  (pass:∀a w,J a w→rest.wp P (KD (fun l' a' w'=>(l'=l∧J a' w'∧μ a' w'<μ a w)∨(l'=m∧J2 a' w')) Q) a w)
  (last:∀a w,J2 a w→rest2.wp P (KD (fun _ _ _=>False) Q) a w)
  (first:∀K:Exit→Act→World→Prop,(∀a w,J a w→rest.wp P K a w)→c.wp P K a w):(Code.scope c).wp P Q a w:=by
 refine J0 (fun l' a w=>(l'=l∧J a w)∨(l'=m∧J2 a w)) (fun l' a w=>if l'=l then μ a w+1 else 0) ?_ ?_
 ·rintro l' a w (⟨rfl,h⟩ | ⟨rfl,h⟩)
  ·refine⟨_,hf,F5 (wp_mono (pass a w h) fun e a' w' hq=> ?_)⟩
   cases e<;>first | exact hq | skip
   rcases hq with ⟨rfl,h1,h2⟩ | ⟨rfl,h1⟩
   ·exact⟨.inl ⟨rfl,h1⟩,zK⟩
   ·exact⟨.inr ⟨rfl,h1⟩,by simp[Ne.symm hlm]⟩
  ·refine⟨_,hf2,F5 (wp_mono (last a w h) fun e a' w' hq=> ?_)⟩
   cases e<;>first | exact hq | exact hq.elim
 ·refine first _ fun a w h=>wp_mono (pass a w h) fun e a' w' hq=> ?_
  cases e<;>first | exact hq | skip
  rcases hq with ⟨rfl,h1,_⟩ | ⟨rfl,h1⟩
  ·exact .inl ⟨rfl,h1⟩
  ·exact .inr ⟨rfl,h1⟩
end
end Go.Bs
