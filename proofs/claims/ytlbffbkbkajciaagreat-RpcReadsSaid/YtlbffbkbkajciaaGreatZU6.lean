/- Mini: Needed by rpcReads_walk, part 6: texts put together by shake.py; no condition. -/
import Derived.Test.YtlbffbkbkajciaaGreatZU3
import Derived.Test.YtlbffbkbkajciaaGreatZU2
import Derived.Test.YtlbffbkbkajciaaGreatZU5
import Derived.Lib.SlBytesConst
import Derived.Test.YtlbffbkbkajciaaGreatZU4
import Derived.RegionTactic
import Derived.Laws.BitsAllLaws
import Derived.Test.YtlbffbkbkajciaaGreatZU1
set_option linter.unusedVariables false
set_option linter.unusedSimpArgs false
set_option maxRecDepth 100000
set_option maxHeartbeats 6400000
namespace Go.Bs
variable{c:Nat}
theorem zC4{p:Prop}(h:p:=by have := x.toNat_lt; omega):p:=h
theorem zCg{p:Prop}(h:p:=by have := Rs.FW (B := B) (s := s) (m := min most 1048576); omega):p:=h
theorem Z7{p:Prop}(h:p:=by have := HFIT.out; rw [HK.out] at this; simp at this ⊢; omega):p:=h
theorem Z5{p:Prop}(h:p:=by have := HLEN.out; rw [HK.out] at this; simp at this ⊢; omega):p:=h
abbrev VN(h:Array Value:=by exact #[Value.int .u32 (v0:Int),Value.int .u32 (v1:Int),Value.int .u32 (v2:Int),Value.int .u32 (v3:Int),Value.int .u32 (v4:Int),Value.int .u32 (v5:Int),Value.int .u32 (v6:Int),Value.int .u32 (v7:Int),Value.int .u32 (v8:Int),Value.int .u32 (v9:Int),Value.int .u32 (v10:Int),Value.int .u32 (v11:Int),Value.int .u32 (v12:Int),Value.int .u32 (v13:Int),Value.int .u32 (v14:Int),Value.int .u32 (v15:Int)]):=h
theorem Cu:type_of% @of_decide_eq_true:=@of_decide_eq_true
theorem Em:type_of% @of_decide_eq_false:=@of_decide_eq_false
end Go.Bs
namespace Go.Proofs.YtlbffbkbkajciaaGreat
open Go.RowKit Go.Bs Go.Maps
variable{bound:Int}{B b out:List UInt8}{L c g i lo o p:Nat}{a a1:Option Addr}{s:Rs}{v:Value}{w:World}
def Rest(b:List UInt8)(p i:Nat)(O:List Tok):Prop:=∃f,b.length≤p+f∧Ds b=O++Ei b f p i
theorem Rest.copy{m:Nat}{O:List Tok}(h:Rest b p i O)(hp:p<b.length)(hb:BP b p=(o,m))(hm:m≠0):Rest b (p+m) (p+m) (O++DY b i p++[⟨[],(o:Int),(m:Int)⟩]):=by
 obtain⟨f,hf,h⟩:=h;obtain⟨f,rfl⟩:∃f',f=f'+1:=⟨f-1,zD⟩;refine⟨f,zD,?_⟩;rw[h];simp only[Ei,An hp,hb,Ak hm];simp
theorem Rest.none{O:List Tok}(h:Rest b p i O)(hp:p<b.length)(hb:BP b p=(o,0)):Rest b (p+1) i O:=by
 obtain⟨f,hf,h⟩:=h;obtain⟨f,rfl⟩:∃f',f=f'+1:=⟨f-1,zD⟩;refine⟨f,zD,?_⟩;rw[h];simp only[Ei,An hp,hb,DE]
theorem Rest.fin{O:List Tok}(h:Rest b b.length i O):Ds b=O++DY b i b.length:=by
 obtain⟨f,hf,h⟩:=h;rw[h];cases f with
 | zero=>rfl
 | succ f=>simp only[Ei,Ak (Nat.lt_irrefl _)]
def Jw(O:List Tok):Prop:=∀n,O.length=n+1→∀t,O[n]? =some t→t.off≠0
theorem Jw.snoc(O:List Tok){m:Nat}(ho:o≠0):Jw (O++[⟨[],(o:Int),(m:Int)⟩]):=fun n hn t ht=>by
 have e:n=O.length:=by simp at hn;omega
 subst e;simp at ht;subst ht;simpa using ho
def QP(lo:Nat)(b:List UInt8)(w:World)(v:Value)(O:List Tok)(i p:Nat):Prop:=
 (i=p∧∃cells,CJ lo Gw lo 225 3 w v O cells)∨(i<p∧∃g c cells vl,v=.slice (some ⟨g,0,none⟩) (O.length+1) c∧Hc lo w g c cells O ((b.drop i).take (p-i)) vl)
theorem QP.close{O:List Tok}(h:QP lo b w v O i p):∃cells,CJ lo Gw lo 225 3 w v (O++DY b i p) cells:=by
 rcases h with ⟨rfl,cells,h⟩ | ⟨h0,g,c,cells,vl,rfl,h⟩
 ·exact⟨cells,by simpa [DY] using h⟩
 ·exact⟨_,by have:=h.close;simpa [DY,h0] using this⟩
theorem Ok(hi:i≤p)(hp:p<b.length):(b.drop i).take (p+1-i)=(b.drop i).take (p-i)++[b[p]]:=by
 rw[show p+1-i=(p-i)+1 by omega,EO zM];congr 2
 simp;congr 1
 omega
theorem Nf(b:List UInt8)(a:Option Addr)(n c:Nat)(w:World)(hl:Ah.r (·<w.heap.size) w [.slice a n c] b)(hlen:b.length≤1048576):
  Calls Tryz.prog 226 #[.slice a n c] w fun r w'=>∃v,r=.returned v∧Kj.r (fun q=>w.heap.size≤q∧q<w'.heap.size) w' [v] (Ds b)∧Below w.heap.size w w':=by
 obtain⟨rfl,hm,_,_⟩:=AU hl;obtain⟨i0,hi,hz0,hz1,hz2⟩:=Bc Ey;obtain⟨j0,hj0,hy0,hy1,hy2⟩:=Bc Nr;have HL:=hid hl;clear hl;go_enter Tryz.func226,Tryz.ntmps226;go_wp2_with fail;go_loopw [3,4] (fun v pv wr=>∃(p i:Nat) (O:List Tok),pv=.int .i64 p∧p≤b.length∧i≤p∧O.length≤i∧Hid (Rest b p i O)∧Hid (Jw O)∧Hid (QP w.heap.size b wr v O i p)∧Below w.heap.size w wr) (fun _ pv _=>b.length-(intOf pv).toNat)
 case atStart=>exact ⟨0,0,[],rfl,Ao _,Aj _,Aj _,hid ⟨b.length,zD,rfl⟩,hid (fun n hn=>by simp at hn),hid (.inl ⟨rfl,AD.nil⟩),Below.refl _ _⟩
 case round=>
  obtain⟨p,i,O,rfl,hp,hip,hOi,hrest,hlc,hout,hb⟩:=hrel;have hbs:=hb.size;obtain⟨cells3,hcl⟩:=hout.out.close;obtain⟨av,cv,rfl⟩:=AX hcl.1;have hLL:(O++DY b i p).length≤p:=by
   unfold DY;split<;>simp<;>omega
  rcases Bm p b.length with hlt | hge
  ·have HB:=hid (N9 b p a _ c wr (lift HL.out hb) hlen)
   have hfc:=hid (Fo b p);have hroom:=G0 b p;generalize hom:BP b p=om at*;obtain⟨o,m⟩:=om;dsimp only at hroom;have HOM:=hid hom;have HCL:=hid hcl;clear hom hcl;by_cases hm0:m=0
   ·subst hm0
    have hrn:=hid (hrest.out.none hlt HOM.out);have hyb:=Bt HL.out hlt;obtain⟨ab,ob,hA,hab,hcb⟩:=hyb;subst hA;have hab':ab<w.heap.size:=hab;rcases hout.out with ⟨hipe,cells,hcl0⟩ | ⟨h0,g,cg,cells,vl,hv,htb⟩
    ·subst hipe
     have hlit:DY b i i=[]:=by simp[DY]
     have HLS:=hid (Ok (Aj i) hlt);simp only[Dg,List.take_zero,BU] at HLS;simp only[hlit,List.append_nil] at hcl0 hLL hrn ⊢;generalize b[i]=y at*;clear hlit hout HCL;have HCB:=hid hcb;clear hcb;rcases Dr O.length with hO0 | hO0
     ·obtain rfl:O=[]:=AP hO0
      clear hO0;simp only[Bz] at*;go_wp2_with fail;refine HB.out.mono ?_;rintro r w2 ⟨rfl,hb2⟩;have hs2:=hb2.size;have hbw2:=Ag hb2 hb;have HC2:=hid (hcl0.below hb2);have Yb:=(hbw2.cell (p:=⟨ab,ob+i,none⟩) hab).trans HCB.out;have i4:(i:Int)<(b.length:Int):=zD;go_wp2_with (at_builtin;go_loud (refine Ar rfl _ _ _ rfl w.heap.size 225 j0 (.agg #[.slice none 0 0,.int .i64 0,.int .i64 0]) 3 40 Tryz.underlying214 hj0 hy0 hy1 hy2 rfl zS (.slice av 0 cv) 0 cells.flatten rfl (AR HC2.out.1 zC) (some ⟨w2.heap.size+1,0,none⟩) 1 1 [.slice (some ⟨w2.heap.size,0,none⟩) 1 1,.int .i64 0,.int .i64 0] rfl (Bf (w2.alloc (.cells #[.int .u8 (y.toNat:Int)] 5)) 225 _ rfl zP rfl) (by intro u hu;simp at hu;rcases hu with rfl | rfl | rfl<;>rfl) zR zD zM ?_;intro v8 w8 hown8 hgrow8 hat8;obtain⟨g8,c8,rfl⟩:=Tm hown8;have HG8:=hid hgrow8;have HO8:=hid hown8;have HA8:=hid hat8;clear hgrow8 hown8 hat8))
      have hst:=Hc.start zD HC2.out HO8.out HG8.out HA8.out;have hb8:Below w.heap.size w w8:=Below.grown zC HG8.out zM (fun g e=>(HC2.out.1.lt g e).1);have hto:QP w.heap.size b w8 (.slice (some ⟨g8,0,none⟩) (0+1) c8) [] i (i+1):=.inr ⟨zD,g8,c8,cells,_,rfl,by rw[HLS.out];exact hst⟩;have HTO:=hid hto;clear hto hst;go_wp2_with fail;go_roundw
      case rel=>exact ⟨i+1,i,[],zZ,zD,zD,zD,hrn,hlc,HTO,hb8⟩
      case measure=>simp [intOf];omega
     ·obtain⟨k,hk⟩:∃k,O.length=k+1:=⟨O.length-1,zD⟩
      obtain⟨gt,ot,hA2,hgt,at2,ct2,q0,q1,q2,zz1,zz2,zz3⟩:=M5 (xs:=O) (AD.slice (Aj _) ⟨_,hcl0⟩) (i:=k) zD;have hoff:=hlc.out k hk O[k] (AQ zD);have eo:(O[k].off==0)=false:=by simpa using hoff
      have HQ1:=hid q1;have t1:((O.length:Int)-1).toNat=k:=zD;have t2:(0:Int)≤(O.length:Int)-1:=zD;have t3:(O.length:Int)-1<(O.length:Int):=zD;have d5:decide ((0:Int)≤(O.length:Int)-1)=true:=Ae t2;generalize O[k].off=of at*;have HHK:=hid hk;clear zz1 zz2 zz3 q0 q1 q2 hoff;clear hk hO0;have hgt':=hgt;subst hA2;go_wp2_with fail;refine HB.out.mono ?_;rintro r w2 ⟨rfl,hb2⟩;have hs2:=hb2.size;have hbw2:=Ag hb2 hb;have HC2:=hid (hcl0.below hb2);have Q1:=(hb2.cell (p:=⟨gt,ot+k*3+1,none⟩) hgt.2).trans HQ1.out;have Yb:=(hbw2.cell (p:=⟨ab,ob+i,none⟩) hab).trans HCB.out;have i4:(i:Int)<(b.length:Int):=zD;go_wp2_with (at_builtin;go_loud (refine Ar rfl _ _ _ rfl w.heap.size 225 j0 (.agg #[.slice none 0 0,.int .i64 0,.int .i64 0]) 3 40 Tryz.underlying214 hj0 hy0 hy1 hy2 rfl zS (.slice (some ⟨gt,ot,none⟩) O.length cv) O.length cells.flatten rfl (AR HC2.out.1 zC) (some ⟨w2.heap.size+1,0,none⟩) 1 1 [.slice (some ⟨w2.heap.size,0,none⟩) 1 1,.int .i64 0,.int .i64 0] rfl (Bf (w2.alloc (.cells #[.int .u8 (y.toNat:Int)] 5)) 225 _ rfl zP rfl) (by intro u hu;simp at hu;rcases hu with rfl | rfl | rfl<;>rfl) zR zD zM ?_;intro v8 w8 hown8 hgrow8 hat8;obtain⟨g8,c8,rfl⟩:=Tm hown8;have HG8:=hid hgrow8;have HO8:=hid hown8;have HA8:=hid hat8;clear hgrow8 hown8 hat8))
      have hst:=Hc.start zD HC2.out HO8.out HG8.out HA8.out;have hb8:Below w.heap.size w w8:=Below.grown zC HG8.out zM (fun g e=>(HC2.out.1.lt g e).1);have hto:QP w.heap.size b w8 (.slice (some ⟨g8,0,none⟩) (O.length+1) c8) O i (i+1):=.inr ⟨zD,g8,c8,cells,_,rfl,by rw[HLS.out];exact hst⟩;have HTO:=hid hto;clear hto hst;go_wp2_with fail;go_roundw
      case rel=>exact ⟨i+1,i,O,zZ,zD,zD,zD,hrn,hlc,HTO,hb8⟩
      case measure=>simp [intOf];omega
    ·have hlt1:(O++DY b i p).length=O.length+1:=by simp[DY,h0]
     rw[hlt1] at*;have HLS:=hid (Ok hip hlt);simp only[Value.slice.injEq] at hv;obtain⟨rfl,_,rfl⟩:=hv;generalize hDD:(b.drop i).take (p-i)=D at*;have hDl:D.length≤1048576:=by rw[←hDD];simp;omega
     generalize b[p]=y at*;clear hDD hlt1 hout HCL;obtain⟨al,cl,rfl⟩:=AX htb.last;have HCB:=hid hcb;have HTB:=hid htb;clear hcb htb;have d5:decide ((0:Int)≤(O.length:Int))=true:=Ae zD;have kk:(O.length:Int)+1-1=(O.length:Int):=zD;have i3:(O.length:Int)<(O.length:Int)+1:=zD;have i4:(p:Int)<(b.length:Int):=zD;have i5:(0:Int)≤(O.length:Int):=zD;go_wp2_with fail;refine HB.out.mono ?_;rintro r w2 ⟨rfl,hb2⟩;have hs2:=hb2.size;have hbw2:=Ag hb2 hb;have HT2:=hid (HTB.out.later hb2);obtain⟨pl0,pl1,pl2⟩:=HT2.out.place;obtain⟨hg1,hg2⟩:=HT2.out.U5;have hne:=HT2.out.ne;have hol:=fun q (hq:(Value.slice al D.length cl).ownBlock=some q)=>HT2.out.last.lt q hq;have HOL:=hid hol;clear hol;have Yb:=(hbw2.cell (p:=⟨ab,ob+p,none⟩) hab).trans HCB.out;have hab2:ab<w2.heap.size:=zD;go_wp2_with fail;refine Dk (fun w'=>w'.cell? ⟨g,O.length*3,none⟩=some (.slice al D.length cl)∧w'.cell? ⟨ab,ob+p,none⟩=some (.int .u8 (y.toNat:Int))) _ zL rfl zL ⟨pl0,Yb⟩ (fun hHeld=> ?_);simp only[Cn,Gq];refine Al (i:=0) (oi:=_) (v:=?_) rfl zG zG zG (fun _ _ _ h=>h) (Or.inl ⟨zT,?_⟩) zN ?_;rotate_left
     ·(intro w hSw;(try dsimp only at hSw);go_simp<;>with_reducible rfl)
     (try simp only[Act.put,Aa,Ab,Ac])
     refine Al (i:=1) (oi:=_) (v:=?_) rfl zG zG zG (fun _ _ _ h=>h) (Or.inl ⟨zT,?_⟩) zN ?_;rotate_left
     ·(intro w hSw;(try dsimp only at hSw);go_simp<;>with_reducible rfl)
     (try simp only[Act.put,Aa,Ab,Ac])
     refine Al (i:=2) (oi:=_) (v:=?_) rfl zG zG zG (fun _ _ _ h=>h) (Or.inl ⟨zT,?_⟩) zN ?_;rotate_left
     ·(intro w hSw;(try dsimp only at hSw);go_simp<;>with_reducible rfl)
     (try simp only[Act.put,Aa,Ab,Ac])
     refine Al (i:=3) (oi:=_) (v:=?_) rfl zG zG zG (fun _ _ _ h=>h) (Or.inl ⟨zT,?_⟩) zN ?_;rotate_left
     ·(intro w hSw;(try dsimp only at hSw);go_simp<;>with_reducible rfl)
     (try simp only[Act.put,Aa,Ab,Ac])
     refine Al (i:=4) (oi:=_) (v:=?_) rfl zG zG zG (fun _ _ _ h=>h) (Or.inl ⟨zT,?_⟩) zN ?_;rotate_left
     ·(intro w hSw;(try dsimp only at hSw);go_simp<;>with_reducible rfl)
     (try simp only[Act.put,Aa,Ab,Ac])
     refine Al (i:=5) (oi:=_) (v:=?_) rfl zG zG zG (fun _ _ _ h=>h) (Or.inl ⟨zT,?_⟩) zN ?_;rotate_left
     ·(intro w hSw;(try dsimp only at hSw);go_simp<;>with_reducible rfl)
     (try simp only[Act.put,Aa,Ab,Ac])
     refine Al (i:=6) (oi:=_) (v:=?_) rfl zG zG zG (fun _ _ _ h=>h) (Or.inl ⟨zT,?_⟩) zN ?_;rotate_left
     ·(intro w hSw;(try dsimp only at hSw);go_simp<;>with_reducible rfl)
     (try simp only[Act.put,Aa,Ab,Ac])
     refine Al (i:=7) (oi:=_) (v:=?_) rfl zG zG zG (fun _ _ _ h=>h) (Or.inl ⟨zT,?_⟩) zN ?_;rotate_left
     ·(intro w hSw;(try dsimp only at hSw);go_simp<;>with_reducible rfl)
     (try simp only[Act.put,Aa,Ab,Ac])
     refine Al (i:=8) (oi:=_) (v:=?_) rfl zG zG zG (fun _ _ _ h=>h) (Or.inl ⟨zT,?_⟩) zN ?_;rotate_left
     ·(intro w hSw;(try dsimp only at hSw);go_simp<;>with_reducible rfl)
     (try simp only[Act.put,Aa,Ab,Ac])
     refine Al (i:=9) (oi:=_) (v:=?_) rfl zG zG zG (fun _ _ _ h=>h) (Or.inl ⟨zT,?_⟩) zN ?_;rotate_left
     ·(intro w hSw;(try dsimp only at hSw);go_simp<;>with_reducible rfl)
     (try simp only[Act.put,Aa,Ab,Ac])
     refine Al (i:=10) (oi:=_) (v:=?_) rfl zG zG zG (fun _ _ _ h=>h) (Or.inl ⟨zT,?_⟩) zN ?_;rotate_left
     ·(intro w hSw;(try dsimp only at hSw);go_simp<;>with_reducible rfl)
     (try simp only[Act.put,Aa,Ab,Ac])
     refine AF (rs:=[11]) zG zP ?_;refine Ax (o:=_) rfl (fun K hK=> ?_) AllReadyH.nil;go_simp
     refine hK.out _ _ ?_ (fun hHeld=> ?_)
     ·((try dsimp only);refine⟨?_,?_⟩<;>(first | assumption | (go_keep;done)))
     clear hK K
     (try simp only[Act.put,Aa,Ab,Ac])
     refine AF (rs:=[12]) zG zP ?_;refine Ax (o:=_) rfl (fun K hK=> ?_) AllReadyH.nil
     (refine Dd zT _ _ _ zT w.heap.size 5 i0 (.int .u8 0) 1 1 AK hi hz0 hz1 hz2 rfl zS (.slice al D.length cl) D.length (byteCells D) zT (AR HT2.out.last zC) (some ⟨w2.heap.size,0,none⟩) 1 1 [.int .u8 (y.toNat:Int)] zT (Bf w2.drew 5 _ zT zT rfl) ZI zR zD zM ?_;intro a8 c8 w8 hown8 hgrow8 hat8;have G:=fun b' (hb:b'<w2.heap.size) (hne:(Value.slice al D.length cl).ownBlock≠some b')=>(hgrow8.block b' zM (fun e=>hne e.symm)).trans (A2 w2.drew _ b' (by exact hb));have m1:=(Bq (a:=⟨g,O.length*3,none⟩) (G g hg2 hne)).trans pl0;have m2:=(Cx (a:=⟨g,O.length*3,none⟩) (G g hg2 hne)).trans pl2;have neb:(Value.slice al D.length cl).ownBlock≠some ab:=fun e=>by {have:=(HOL.out _ e).1;omega};have m3:=(Bq (a:=⟨ab,ob+p,none⟩) (G ab hab2 neb)).trans Yb;have m4:g<w8.heap.size:=Am hg2 (A4 zP hgrow8.size);have HG8:=hid hgrow8;have HO8:=hid hown8;have HA8:=hid hat8;have HGG:=hid G;clear hgrow8 hown8 hat8 G neb)
     refine hK.out _ _ ?_ (fun hHeld=> ?_)
     ·((try dsimp only);refine⟨?_,?_⟩<;>(first | assumption | (go_keep;done)))
     clear hK K
     (try simp only[Act.put,Aa,Ab,Ac])
     refine Al (i:=13) (oi:=_) (v:=?_) rfl zG zG zG (fun _ _ _ h=>h) (Or.inl ⟨zT,?_⟩) zN ?_;rotate_left
     ·(intro w hSw;(try dsimp only at hSw);go_simp<;>with_reducible rfl)
     (try simp only[Act.put,Aa,Ab,Ac])
     refine Al (i:=14) (oi:=_) (v:=?_) rfl zG zG zG (fun _ _ _ h=>h) (Or.inl ⟨zT,?_⟩) zN ?_;rotate_left
     ·(intro w hSw;(try dsimp only at hSw);go_simp<;>with_reducible rfl)
     (try simp only[Act.put,Aa,Ab,Ac])
     refine Al (i:=15) (oi:=_) (v:=?_) rfl zG zG zG (fun _ _ _ h=>h) (Or.inl ⟨zT,?_⟩) zN ?_;rotate_left
     ·(intro w hSw;(try dsimp only at hSw);go_simp<;>with_reducible rfl)
     (try simp only[Act.put,Aa,Ab,Ac])
     refine Bp zL ?_ _;show wpList _ _ _ _ _ _
     have hs8:w2.heap.size+1≤w8.heap.size:=by have:=HG8.out.size;simpa using this
     have hgr:=Hc.grow (w':=w8) (D':=D++[y]) (vl':=.slice a8 (D.length+1) c8) HT2.out (fun q hq hn=>HGG.out q hq hn) zD (by rw[Au,←C8];exact HO8.out) (by
      rcases HA8.out with h | h
      ·exact .inl h
      ·exact .inr ⟨_,h,zP⟩)
     have hb8:Below w.heap.size w w8:=Below.grown zC HG8.out zM (fun g e=>(HOL.out g e).1);have hb9:Below w.heap.size w (w8.setCell ⟨g,O.length*3,none⟩ (.slice a8 (D.length+1) c8)):=hb8.setCell hg1 _;have hto:QP w.heap.size b (w8.setCell ⟨g,O.length*3,none⟩ (.slice a8 (D.length+1) c8)) (.slice (some ⟨g,0,none⟩) (O.length+1) cv) O i (p+1):=.inr ⟨zD,g,cv,cells,_,rfl,by rw[HLS.out];exact hgr⟩;have HTO:=hid hto;clear hto hgr;go_wp2_with fail;go_roundw
     case rel=>exact ⟨p+1,i,O,zZ,zD,zD,zD,hrn,hlc,HTO,hb9⟩
     case measure=>simp [intOf];omega
   ·have hm4:1≤o∧4≤m:=by
     rcases hfc.out with h | ⟨o',m',h,h1,h2,h3,_⟩
     ·simp only[A7] at h;omega
     ·simp only[A7] at h;omega
    have hrn:=hid (hrest.out.copy hlt HOM.out hm0);have hls:=hid (Jw.snoc (O++DY b i p) (o:=o) (m:=m) zD);have d1:decide ((0:Int)<(m:Int))=true:=zM;have d1':decide (0<m)=true:=zM;generalize hL3:O++DY b i p=L3 at*;clear hL3 hm0;go_wp2_with fail;refine HB.out.mono ?_;rintro r w2 ⟨rfl,hb2⟩;have hs2:=hb2.size;have hbw2:=Ag hb2 hb;have HC2:=hid (HCL.out.below hb2);go_wp2_with (at_builtin;go_loud (refine Ar rfl _ _ _ rfl w.heap.size 225 j0 (.agg #[.slice none 0 0,.int .i64 0,.int .i64 0]) 3 40 Tryz.underlying214 hj0 hy0 hy1 hy2 rfl zS (.slice av L3.length cv) L3.length cells3.flatten rfl (AR HC2.out.1 zC) (some ⟨w2.heap.size,0,none⟩) 1 1 [.slice none 0 0,.int .i64 (o:Int),.int .i64 (m:Int)] rfl (Bf w2 225 _ rfl rfl rfl) (by intro u hu;simp at hu;rcases hu with rfl | rfl | rfl<;>rfl) zR zD zM ?_;intro v8 w8 hown8 hgrow8 hat8;obtain⟨a8,c8,rfl⟩:=AX hown8;have HG8:=hid hgrow8;have HO8:=hid hown8;have HA8:=hid hat8;clear hgrow8 hown8 hat8))
    have hx:Gw.r (fun q=>w.heap.size≤q∧q<(w2.alloc (.cells #[.slice none 0 0,.int .i64 (o:Int),.int .i64 (m:Int)] 225)).heap.size∧(Value.slice av L3.length cv).ownBlock≠some q) (w2.alloc (.cells #[.slice none 0 0,.int .i64 (o:Int),.int .i64 (m:Int)] 225)) [.slice none 0 0,.int .i64 (o:Int),.int .i64 (m:Int)] ⟨[],o,m⟩:=
     M4 (x:=⟨[],o,m⟩) (AZ rfl (Aj _) (Ao _) (.inl rfl)) zM zM
    have hpu:=AD.push (HC2.out.below zC) rfl hx HO8.out HG8.out HA8.out HG8.out.size;have hb8:Below w.heap.size w w8:=Below.grown zC HG8.out zM (fun g e=>(HC2.out.1.lt g e).1);have hto:QP w.heap.size b w8 (.slice a8 (L3.length+1) c8) (L3++[⟨[],(o:Int),(m:Int)⟩]) (p+m) (p+m):=.inl ⟨rfl,hpu⟩;have HTO:=hid hto;clear hto hpu hx;go_wp2_with fail;go_roundw
    case rel=>exact ⟨p+m,p+m,L3++[⟨[],(o:Int),(m:Int)⟩],zZ,zD,Aj _,zM,hrn,hls,HTO,hb8⟩
    case measure=>simp [intOf];omega
  ·obtain rfl:p=b.length:=by omega
   have hf:=hrest.out.fin;rw[←hf] at hcl;have hV:=AD.slice (Aj _) ⟨_,hcl⟩;rw[←hf] at*;have HV:=hid hV;clear hV hcl hf;go_wp2;go_ret;exact⟨_,rfl,HV.out,hb⟩
theorem IM(hb:b.length≤1048576):∀{f:Bool} {p:Nat} {ts:List Tok},Good b f p ts→∀t∈ts,Ct t=true
 | _,_,_,.nil,t,ht=>by simp at ht
 | _,_,_,.copy (p:=p) (o:=o) (m:=m) hp hbe hm hg,t,ht=>by
  rcases List.mem_cons.1 ht with rfl | ht
  ·have h1:=Fo b p
   have h2:=(G0 b p).1;rw[hbe] at h1 h2;simp only at h2;rcases h1 with h1 | ⟨o',m',h1,g1,g2,g3,_⟩
   ·simp only[A7] at h1;omega
   ·simp only[A7] at h1
    unfold reach at g2;simp[Ct,Gk];omega
  ·exact IM hb hg t ht
 | _,_,_,.run (p:=p) (q:=q) h1 h2 h3 hg,t,ht=>by
  rcases List.mem_cons.1 ht with rfl | ht
  ·simp[Ct,EP]
   omega
  ·exact IM hb hg t ht
theorem Iy{b:List UInt8}(hb:b.length≤1048576):∀t∈Ds b,Ct t=true:=IM hb (Qn b)
theorem Mc(hb:b.length≤1048576):(Ds b).length≤10000000:=by
 have:=IY b b.length 0 0;unfold Ds;omega
theorem Oe(w:World)(b:List UInt8)(a:Option Addr)(n c:Nat)(hl:Ah.r (·<w.heap.size) w [.slice a n c] b)(hlen:b.length≤1048576):
  Calls Tryz.prog 216 #[.slice a n c] w fun r w'=>∃v,r=.returned (.tuple #[v,.int .i64 0])∧Ah.r (fun q=>w.heap.size≤q∧q<w'.heap.size) w' [v] (Cy (Ds b))∧Below w.heap.size w w':=by
 obtain⟨rfl,hm,_,_⟩:=AU hl;have HT:=hid (Ni w b a _ c hl hlen);have hri:=Iy hlen;have hl2:=Mc hlen;clear hl;generalize Ds b=T at*;go_enter Tryz.func216,Tryz.ntmps216;go_wp2_with fail;refine HT.out.mono ?_;rintro r w1 ⟨v,rfl,hr,hb1⟩;obtain⟨a1,c1,hv,hr2,_⟩:=At hr;simp only[Ai,As] at hv;subst hv;have HB:=hid (NL T a1 _ c1 w1 (Kj.mono hr2 fun q hq=>hq.2) hl2 hri);have hs1:=hb1.size;clear hr hr2;go_wp2_with fail;refine HB.out.mono ?_;rintro r w2 ⟨v2,rfl,hv2,hb2⟩;have hbe:=Ag hb2 hb1;have HV:=hid (Ah.mono (S':=fun q=>w.heap.size≤q∧q<w2.heap.size) hv2 fun q hq=>⟨zV,hq.2⟩);clear hv2;go_wp2;go_ret2
 exact⟨_,rfl,HV.out,hbe⟩
theorem Mr(x:Nat):∀(hx:x<18446744073709551616) (w:World),
  Calls Tryz.prog 104 #[.int .u64 x] w fun r w'=>∃v,r=.returned v∧w'.ownsRow w.heap.size 5 1 v (A5 x).length (byteCells (A5 x))∧Below w.heap.size w w':=by
 induction x using Nat.strongRecOn with
 | ind x ih=>
 intro hx w;obtain⟨i0,hi,hz0,hz1,hz2⟩:=Bc Ey;by_cases h:x<128
 ·have d1:decide ((x:Int)<128)=true:=by simp;omega
  have hfin:Hid (A5 x=[UInt8.ofNat x]):=hid (FN h);have hby:Hid ((x:Int)=((UInt8.ofNat x).toNat:Int)):=hid (EZ zD);have HIH:=hid ih;clear ih;go_enter Tryz.func104,Tryz.ntmps104;go_wp2_with fail;have e0:[Value.int .u8 (x:Int)]=byteCells (A5 x):=by rw[hfin.out,hby.out];rfl
  have ho:(w.alloc (.cells #[.int .u8 (x:Int)] 5)).ownsRow w.heap.size 5 1 (.slice (some ⟨w.heap.size,0,none⟩) 1 1) 1 (byteCells (A5 x)):=e0 ▸ Gz (w:=w.alloc (.cells #[.int .u8 (x:Int)] 5)) (base:=w.heap.size) (e:=5) (Aj _) (EM w _);have HL1:Hid ((A5 x).length=1):=hid ZJ;have HV:=hid ho;clear ho e0;go_ret;exact⟨_,rfl,by rw[HL1.out];exact HV.out,zC⟩
 ·have d1:decide ((x:Int)<128)=false:=by simp;omega
  have HIH:=hid (fun (W:World)=>ih (x/128) zD zD W);clear ih;rw[show ((x/128:Nat):Int)=(x:Int)/128 by omega] at HIH;have hfin:Hid (A5 x=[UInt8.ofNat (128+x%128)]++A5 (x/128)):=hid (by rw[Ie h (by omega)];rfl);have hby:Hid (128+(x:Int)%128=((UInt8.ofNat (128+x%128)).toNat:Int)):=hid zB2;have hlb:=Bj (x/128);go_enter Tryz.func104,Tryz.ntmps104;go_wp2_with fail;refine (HIH.out _).mono ?_;rintro r w1 ⟨v1,rfl,hr1,hb1⟩;have ho:=Gz (w:=w.alloc (.cells #[.int .u8 (128+(x:Int)%128)] 5)) (base:=w.heap.size) (e:=5) (Aj _) (EM w _);have ho1:=AR ho hb1;obtain⟨a1,c1,rfl⟩:=AX hr1;have hr3:=BZ (Ah.mono (B9 rfl hr1) (S':=(·<w1.heap.size)) fun b hb=>hb.2);have HS:=hid hr3;have HO:=hid ho1;have HONE:=hid (Bd (A5 (x/128)));have hz1w:w.heap.size+1≤w1.heap.size:=zCc;have hbw1:Below w.heap.size w w1:=zC;clear hr1 hr3 ho ho1;go_wp2_with (at_builtin;go_loud (refine Ar rfl _ _ _ rfl w.heap.size 5 i0 (.int .u8 0) 1 1 AK hi hz0 hz1 hz2 rfl zS (.slice (some ⟨w.heap.size,0,none⟩) 1 1) 1 _ rfl HO.out a1 (A5 (x/128)).length c1 (byteCells (A5 (x/128))) rfl HS.out HONE.out zR zD zD ?_;intro v' w2 hown2 hgrow2 hat2;have HG:=hid hgrow2;have HO2:=hid hown2;clear hgrow2 hown2 hat2))
  have ho:=HO2.out;rw[hby.out,show [Value.int .u8 ((UInt8.ofNat (128+x%128)).toNat:Int)]=byteCells [UInt8.ofNat (128+x%128)] from rfl,byteCells,byteCells,←List.map_append,←hfin.out] at ho;rw[show 1+(A5 (x/128)).length=(A5 x).length by rw[hfin.out];simp;omega] at ho;have hB:Below w.heap.size w w2:=Below.grown hbw1 HG.out zD (fun g e=>(HO.out.lt g e).1);have HV:=hid ho;clear ho;go_ret;exact⟨_,rfl,HV.out,hB⟩
def DG(D:List UInt8):List UInt8:=A5 D.length++D
theorem GD(D:List UInt8):(DG D).length=(A5 D.length).length+D.length:=by simp[DG]
theorem J1(n:Nat)(hn:n≤100000000000000)(w:World):
  Calls Tryz.prog 217 #[.int .i64 n] w fun r w'=>r=.returned (.int .i64 ((A5 n).length+n:Nat))∧Below w.heap.size w w':=by
 have HS:=hid (fun (W:World)=>J5 n zD W);have hl:=Bj n;generalize (A5 n).length=k at*;go_enter Tryz.func217,Tryz.ntmps217;go_wp2_with fail;refine (HS.out _).mono ?_;rintro r w1 ⟨rfl,hb1⟩;go_wp2;go_ret;exact⟨zBo,hb1⟩
theorem OZ(w:World){g base most:Nat}{J:List UInt8}{a:Option Addr}(h:Cl w g base most J a c)(D:List UInt8)(ad:Option Addr)(nd cd:Nat)
 (hD:Ah.r (fun q=>q<w.heap.size∧¬DH g a q) w [.slice ad nd cd] D) (hfit:J.length+(DG D).length≤most) (hlen:J.length+(DG D).length≤100000000000000):
  Calls Tryz.prog 154 #[.pointer (some ⟨g,0,none⟩),.slice ad nd cd] w fun r w'=>r=.returned (.tuple #[])∧Ay w g base most (J++DG D) a w':=by
 obtain⟨rfl,hm,_,_⟩:=AU hD;rw[GD] at hfit hlen;have HV:=hid (DQ w h D.length zD zD zD);have HD:=hid hD;have hfit':=hid hfit;have hlen':=hid hlen;clear h hD hfit hlen;go_enter Tryz.func154,Tryz.ntmps154;go_wp2_with fail;refine HV.out.mono ?_;rintro r w2 ⟨rfl,a2,c2,hp2,ht2,ha2⟩;have hs2:=ht2.size;have HQ:=hid (E0 w2 hp2 D ad _ cd (Ah.mono (Ah.keep HD.out fun q hq=>ht2.block q hq.1 hq.2) fun q hq=>Am hq.1 hs2) zBi zBh);go_wp2_with fail;refine HQ.out.mono ?_;rintro r w3 ⟨rfl,hst⟩;have hst2:=Ay.trans (J:=J) ht2 ha2 hst;rw[CF] at hst2;have HST:=hid hst2;clear hst hst2;go_wp2;first | go_end0 | refine Af (Av rfl _ _ _) rfl ?_
 exact⟨rfl,HST.out⟩
theorem Mq(w:World)(D:List UInt8)(a:Option Addr)(n c:Nat)(hl:Ah.r (·<w.heap.size) w [.slice a n c] D)(hlen:D.length≤10000000000000):
  Calls Tryz.prog 134 #[.slice a n c] w fun r w'=>∃v,r=.returned v∧w'.ownsRow w.heap.size 5 1 v (DG D).length (byteCells (DG D))∧Below w.heap.size w w':=by
 obtain⟨rfl,hm,_,_⟩:=AU hl;obtain⟨i0,hi,hz0,hz1,hz2⟩:=Bc Ey;have HL:=hid hl;have HV:=hid (Mr D.length zD w);have HONE:=hid (Bd D);have hvl:=Bj D.length;have hbl:=hid (GD D);have hbd:Hid (DG D=A5 D.length++D):=hid rfl;clear hl;generalize A5 D.length=E at*;go_enter Tryz.func134,Tryz.ntmps134;go_wp2_with fail;refine HV.out.mono ?_;rintro r w1 ⟨v,rfl,ho,hb1⟩;obtain⟨a1,c1,rfl⟩:=AX ho;have hs1:=hb1.size;have HO:=hid ho;have HS:=hid (BZ (lift HL.out hb1));clear ho;go_wp2_with (at_builtin;go_loud (refine Ar rfl _ _ _ rfl w.heap.size 5 i0 (.int .u8 0) 1 1 AK hi hz0 hz1 hz2 rfl zS (.slice a1 E.length c1) E.length (byteCells E) rfl HO.out a D.length c (byteCells D) rfl HS.out HONE.out zR zD zD ?_;intro v' w2 hown2 hgrow2 hat2;have HG:=hid hgrow2;have HO2:=hid hown2;clear hgrow2 hown2 hat2))
 have ho:=HO2.out;rw[CQ,←hbd.out,show E.length+D.length=(DG D).length from hbl.out.symm] at ho;have hB:Below w.heap.size w w2:=Below.grown hb1 HG.out zD (fun g e=>(HO.out.lt g e).1);have HV2:=hid ho;clear ho;go_ret;exact⟨_,rfl,HV2.out,hB⟩
theorem Kh(w:World)(b:List UInt8)(a:Option Addr)(n c:Nat)(hl:Ah.r (·<w.heap.size) w [.slice a n c] b)(hlen:b.length≤1048576):
  Calls Tryz.prog 175 #[.slice a n c] w fun r w'=>∃v,r=.returned v∧Ah.r (fun q=>w.heap.size≤q∧q<w'.heap.size) w' [v] (Cy (Ds b))∧Below w.heap.size w w':=by
 obtain⟨rfl,hm,_,_⟩:=AU hl;have HT:=hid (Nf b a _ c w hl hlen);have hri:=Iy hlen;have hl2:=Mc hlen;clear hl;generalize Ds b=T at*;go_enter Tryz.func175,Tryz.ntmps175;go_wp2_with fail;refine HT.out.mono ?_;rintro r w1 ⟨v,rfl,hr,hb1⟩;obtain⟨a1,c1,hv,hr2,_⟩:=At hr;simp only[Ai,As] at hv;subst hv;have HB:=hid (Ob T a1 _ c1 w1 (Kj.mono hr2 fun q hq=>hq.2) hl2 hri);have hs1:=hb1.size;clear hr hr2;go_wp2_with fail;refine HB.out.mono ?_;rintro r w2 ⟨v2,rfl,hv2,hb2⟩;have hbe:=Ag hb2 hb1;have HV:=hid (Ah.mono (S':=fun q=>w.heap.size≤q∧q<w2.heap.size) hv2 fun q hq=>⟨zV,hq.2⟩);clear hv2;go_wp2;go_ret;exact⟨_,rfl,HV.out,hbe⟩
def Dx(p:List UInt8):List UInt8:=Cy (Ds p)
def Fv(p:List UInt8):Bool:=decide ((DG (Dx p)).length<p.length)
def CU(p:List UInt8):List UInt8:=A5 p.length++(if Fv p then 1::DG (Dx p) else 0::p)
theorem GO(hb:b.length≤1048576):(Dx b).length≤10000000000000:=by
 have hL:∀t∈Ds b,t.lit.length≤1048576:=fun t ht=>by
  rcases Fe (Iy hb t ht) with ⟨D,rfl,h1,h2⟩ | ⟨o,m,rfl,_⟩
  ·exact h2
  ·simp
 have h1:=Hg (Ds b);have h2:=I6 (Ds b) hL (Ds b).length (Aj _);rw[KF] at h2;have h3:=IY b b.length 0 0;unfold Dx;unfold Ds at*;omega
theorem Nd(w:World)(p:List UInt8)(a:Option Addr)(n c:Nat)(hl:Ah.r (·<w.heap.size) w [.slice a n c] p)(hlen:p.length≤1048576):
  Calls Tryz.prog 174 #[.slice a n c] w fun r w'=>r=.returned (.bool (Fv p))∧Below w.heap.size w w':=by
 obtain⟨rfl,hm,_,_⟩:=AU hl;have HT:=hid (Kh w p a _ c hl hlen);have hsm:=GO hlen;have hpk:Hid (Fv p=decide ((DG (Dx p)).length<p.length)):=hid rfl;have hpI:Hid (decide (((DG (Dx p)).length:Int)<(p.length:Int))=Fv p):=hid (by rw[hpk.out];by_cases h:(DG (Dx p)).length<p.length<;>simp [h]);clear hl;rw[show Cy (Ds p)=Dx p from rfl] at HT;generalize Dx p=E at*;generalize Fv p=R at*;have HB:=hid (fun (W:World) (a1:Option Addr) (c1:Nat) (h:Ah.r (·<W.heap.size) W [.slice a1 E.length c1] E)=>Mq W E a1 _ c1 h hsm);generalize DG E=G at*;clear hpk;go_enter Tryz.func174,Tryz.ntmps174;go_wp2_with fail;refine HT.out.mono ?_;rintro r w1 ⟨v,rfl,hr,hb1⟩;obtain⟨a1,c1,hv,hr2,_⟩:=At hr;simp only[Ai,As] at hv;subst hv;have HR:=hid (Ah.mono hr2 (S':=(·<w1.heap.size)) fun q hq=>hq.2);clear hr hr2;go_wp2_with fail;refine (HB.out _ a1 c1 HR.out).mono ?_;rintro r w2 ⟨v2,rfl,ho,hb2⟩;obtain⟨a2,c2,rfl⟩:=AX ho;have hbe:=Ag hb2 hb1;clear ho;have hpI':=hpI.out;clear hpI;cases R
 ·have d1:decide ((G.length:Int)<(p.length:Int))=false:=hpI'
  have d1':decide (G.length<p.length)=false:=by simp at d1;simp;omega
  clear hpI';go_wp2;go_ret;exact⟨rfl,hbe⟩
 ·have d1:decide ((G.length:Int)<(p.length:Int))=true:=hpI'
  have d1':decide (G.length<p.length)=true:=by simp at d1;simp;omega
  clear hpI';go_wp2;go_ret;exact⟨rfl,hbe⟩
theorem NC(w:World)(p:List UInt8)(a:Option Addr)(n c:Nat)(hl:Ah.r (·<w.heap.size) w [.slice a n c] p)(hlen:p.length≤1048576):
  Calls Tryz.prog 153 #[.slice a n c] w fun r w'=>∃v,r=.returned (.tuple #[v,.bool (Fv p)])∧(Fv p=true→Ah.r (fun q=>w.heap.size≤q∧q<w'.heap.size) w' [v] (Dx p))∧(Fv p=false→v=.slice none 0 0)∧Below w.heap.size w w':=by
 obtain⟨rfl,hm,_,_⟩:=AU hl;have HT:=hid (Oe w p a _ c hl hlen);have hsm:=GO hlen;have hbl:=GD (Dx p);have hpk:Hid (Fv p=decide ((DG (Dx p)).length<p.length)):=hid rfl;clear hl;rw[show Cy (Ds p)=Dx p from rfl] at HT;generalize Dx p=E at*;rw[hbl] at hpk;generalize Fv p=R at*;have HS:=hid (fun (W:World)=>J1 E.length zD W);have hvl:=Bj E.length;clear hbl;generalize (A5 E.length).length=k at*;go_enter Tryz.func153,Tryz.ntmps153;go_wp2_with fail;refine HT.out.mono ?_;rintro r w1 ⟨v,rfl,hr,hb1⟩;obtain⟨a1,c1,hv,hr2,_⟩:=At hr;simp only[Ai,As] at hv;subst hv;have HR:=hid hr2;have hs1:=hb1.size;clear hr hr2;go_wp2_with fail;refine (HS.out _).mono ?_;rintro r w2 ⟨rfl,hb2⟩;have hbe:=Ag hb2 hb1;have hs2:=hb2.size;have HR2:=hid (Ah.mono (S':=fun q=>w.heap.size≤q∧q<w2.heap.size) (Ah.keep HR.out fun q hq=>hb2.block q hq.2) fun q hq=>⟨hq.1,zD⟩);have hpk':=hpk.out;clear hpk;cases R
 ·have hle:¬k+E.length<p.length:=Em hpk'.symm
  have d1:decide ((p.length:Int)≤(k:Int)+(E.length:Int))=true:=Ae zD;have d1':decide ((p.length:Int)≤((k+E.length:Nat):Int))=true:=Ae zD;have d1'':decide (p.length≤k+E.length)=true:=Ae zD;clear hpk' hle;go_wp2;go_ret2
  exact⟨_,rfl,rfl,hbe⟩
 ·have hle:k+E.length<p.length:=Cu hpk'.symm
  have d1:decide ((p.length:Int)≤(k:Int)+(E.length:Int))=false:=Ad zD;have d1':decide ((p.length:Int)≤((k+E.length:Nat):Int))=false:=Ad zD;have d1'':decide (p.length≤k+E.length)=false:=Ad zD;clear hpk' hle;go_wp2;go_ret2
  exact⟨_,rfl,HR2.out,hbe⟩
theorem N7(w:World)(p:List UInt8)(a:Option Addr)(n c:Nat)(hl:Ah.r (·<w.heap.size) w [.slice a n c] p)(hlen:p.length≤1048576):
  Calls Tryz.prog 107 #[.slice a n c] w fun r w'=>∃v,r=.returned v∧Ah.r (fun q=>w.heap.size≤q∧q<w'.heap.size) w' [v] (CU p)∧Below w.heap.size w w':=by
 obtain⟨rfl,hm,_,_⟩:=AU hl;obtain⟨i0,hi,hz0,hz1,hz2⟩:=Bc Ey;have HL:=hid hl;have HV:=hid (Mr p.length zD w);have HPK:=hid (fun (W:World) (hW:Below w.heap.size w W)=>Nd W p a _ c (lift HL.out hW) hlen);have HPB:=hid (fun (W:World) (hW:Below w.heap.size w W)=>Kh W p a _ c (lift HL.out hW) hlen);have hsm:=GO hlen;have hbk:Hid (CU p=A5 p.length++(if Fv p then 1::DG (Dx p) else 0::p)):=hid rfl;have hvl:=Bj p.length;have HONE:=hid (Bd p);clear hl;rw[show Cy (Ds p)=Dx p from rfl] at HPB;generalize Dx p=E at*;have HB:=hid (fun (W:World) (av:Option Addr) (cv:Nat) (h:Ah.r (·<W.heap.size) W [.slice av E.length cv] E)=>Mq W E av _ cv h hsm);have hgl:=GD E;have hvE:=Bj E.length;have hG:(DG E).length≤20000000000000:=zD;clear hgl hvE;generalize DG E=G at*;generalize A5 p.length=V at*;generalize Fv p=R at*;generalize CU p=K at*;cases R
 ·have hK:K=V++(0::p):=hbk.out
  have HK:=hid hK;clear hK hbk;go_enter Tryz.func107,Tryz.ntmps107;go_wp2_with fail;refine HV.out.mono ?_;rintro r w1 ⟨v,rfl,ho1,hb1⟩;obtain⟨a1,c1,rfl⟩:=AX ho1;have HO1:=hid ho1;clear ho1;go_wp2_with fail;refine (HPK.out _ hb1).mono ?_;rintro r w2 ⟨rfl,hb2⟩;have hs1:=hb1.size;have hs2:=hb2.size;have hbw2:=Ag hb2 hb1;have HO2:=hid (AR HO1.out hb2);go_wp2_with (first
   | (at_builtin;go_loud (refine Ar rfl _ _ _ rfl w.heap.size 5 i0 (.int .u8 0) 1 1 AK hi hz0 hz1 hz2 rfl zS (.slice a1 V.length c1) V.length (byteCells V) rfl (AR HO2.out zC) (some ⟨w2.heap.size,0,none⟩) 1 1 [.int .u8 0] rfl (Bf w2 5 _ rfl rfl rfl) ZI zR zD zM ?_;intro v' w3 hown3 hgrow3 hat3;obtain⟨a3,c3,rfl⟩:=AX hown3;have HO3:=hid hown3;have hbw3:Below w.heap.size w w3:=(Below.grown zC hgrow3 zM (fun g e=>(HO2.out.lt g e).1));have hs3:w2.heap.size≤w3.heap.size:=(A4 zP hgrow3.size);have HS3:=hid (BZ (lift HL.out hbw3));clear hgrow3 hown3 hat3))
   | (at_builtin;go_loud (refine Ar rfl _ _ _ rfl w.heap.size 5 i0 (.int .u8 0) 1 1 AK hi hz0 hz1 hz2 rfl zS (.slice a3 (V.length+1) c3) (V.length+1) (byteCells V++[.int .u8 0]) rfl HO3.out a p.length c (byteCells p) rfl HS3.out HONE.out zR zD zD ?_;intro v' w5 hown5 hgrow5 hat5;have HG5:=hid hgrow5;have HO5:=hid hown5;clear hgrow5 hown5 hat5)))
  have ho:=HO5.out;rw[show [Value.int .u8 0]=byteCells [0] from rfl,CQ,CQ,CF,show [(0:UInt8)]++p=0::p from rfl,←HK.out] at ho;have hln:V.length+1+p.length=K.length:=by rw[HK.out];simp;omega
  have hV5:=B9 hln ho;have hbF:Below w.heap.size w w5:=Below.grown hbw3 HG5.out zD (fun g e=>(HO3.out.lt g e).1);have HV5:=hid hV5;clear ho hln hV5;go_ret;exact⟨_,rfl,HV5.out,hbF⟩
 ·have hK:K=V++(1::G):=hbk.out
  have HK:=hid hK;clear hK hbk;go_enter Tryz.func107,Tryz.ntmps107;go_wp2_with fail;refine HV.out.mono ?_;rintro r w1 ⟨v,rfl,ho1,hb1⟩;obtain⟨a1,c1,rfl⟩:=AX ho1;have HO1:=hid ho1;clear ho1;go_wp2_with fail;refine (HPK.out _ hb1).mono ?_;rintro r w2 ⟨rfl,hb2⟩;have hs1:=hb1.size;have hs2:=hb2.size;have hbw2:=Ag hb2 hb1;have HO2:=hid (AR HO1.out hb2);go_wp2_with (at_builtin;go_loud (refine Ar rfl _ _ _ rfl w.heap.size 5 i0 (.int .u8 0) 1 1 AK hi hz0 hz1 hz2 rfl zS (.slice a1 V.length c1) V.length (byteCells V) rfl (AR HO2.out zC) (some ⟨w2.heap.size,0,none⟩) 1 1 [.int .u8 1] rfl (Bf w2 5 _ rfl rfl rfl) ZI zR zD zM ?_;intro v' w3 hown3 hgrow3 hat3;obtain⟨a3,c3,rfl⟩:=AX hown3;have HO3:=hid hown3;have hbw3:Below w.heap.size w w3:=(Below.grown zC hgrow3 zM (fun g e=>(HO2.out.lt g e).1));have hs3:w2.heap.size≤w3.heap.size:=(A4 zP hgrow3.size);have HS3:=hid (BZ (lift HL.out hbw3));clear hgrow3 hown3 hat3))
  refine (HPB.out _ hbw3).mono ?_;rintro r w4 ⟨v4,rfl,hr4,hb4⟩;obtain⟨a4,c4,hv4,hr4',_⟩:=At hr4;simp only[Ai,As] at hv4;subst hv4;have HR4:=hid (Ah.mono hr4' (S':=(·<w4.heap.size)) fun q hq=>hq.2);clear hr4 hr4';go_wp2_with fail;refine (HB.out _ a4 c4 HR4.out).mono ?_;rintro r w5 ⟨v5,rfl,ho5,hb5⟩;obtain⟨a5,c5,rfl⟩:=AX ho5;have hs4:=hb4.size;have hs5:=hb5.size;have hb35:=Ag hb5 hb4;have hbw5:=Ag hb35 hbw3;have HS5:=hid (BZ (GA rfl ho5));have HO5:=hid (AR HO3.out hb35);have HONE5:=hid (Bd G);clear ho5;go_wp2_with (at_builtin;go_loud (refine Ar rfl _ _ _ rfl w.heap.size 5 i0 (.int .u8 0) 1 1 AK hi hz0 hz1 hz2 rfl zS (.slice a3 (V.length+1) c3) (V.length+1) (byteCells V++[.int .u8 1]) rfl HO5.out a5 G.length c5 (byteCells G) rfl HS5.out HONE5.out zR zD zD ?_;intro v' w6 hown6 hgrow6 hat6;have HG6:=hid hgrow6;have HO6:=hid hown6;clear hgrow6 hown6 hat6))
  have ho:=HO6.out;rw[show [Value.int .u8 1]=byteCells [1] from rfl,CQ,CQ,CF,show [(1:UInt8)]++G=1::G from rfl,←HK.out] at ho;have hln:V.length+1+G.length=K.length:=by rw[HK.out];simp;omega
  have hV6:=B9 hln ho;have hbF:Below w.heap.size w w6:=Below.grown hbw5 HG6.out zD (fun g e=>(HO5.out.lt g e).1);have HV6:=hid hV6;clear ho hln hV6;go_ret;exact⟨_,rfl,HV6.out,hbF⟩
theorem Ff(h:a1.map Addr.block=a.map Addr.block∨∃q,a1.map Addr.block=some q∧w.heap.size≤q){q:Nat}(hq:q<w.heap.size)(hn:¬DH g a q):¬DH g a1 q:=by
 rw[Fy] at hn ⊢;intro e;rcases e with e | e
 ·exact hn (.inl e)
 ·rcases h with h | ⟨q',h,h2⟩
  ·exact hn (.inr (h ▸ e))
  ·rw[h] at e;have:=By e;omega
theorem KQ(w:World)(y:UInt8):Ah.r (·<(w.alloc (.cells #[.int .u8 (y.toNat:Int)] 5)).heap.size) (w.alloc (.cells #[.int .u8 (y.toNat:Int)] 5)) [.slice (some ⟨w.heap.size,0,none⟩) 1 1] [y]:=
 GA (l:=[y]) rfl (Gz (base:=0) (Ao _) (EM w _))
theorem St(w:World){g base most:Nat}{J:List UInt8}{a:Option Addr}(h:Cl w g base most J a c)(p:List UInt8)(ad:Option Addr)(nd cd:Nat)
 (hD:Ah.r (fun q=>q<w.heap.size∧¬DH g a q) w [.slice ad nd cd] p) (hp:p.length≤1048576) (hfit:J.length+(CU p).length≤most) (hlen:J.length+(CU p).length≤100000000000000):
  Calls Tryz.prog 74 #[.pointer (some ⟨g,0,none⟩),.slice ad nd cd] w fun r w'=>r=.returned (.tuple #[])∧Ay w g base most (J++CU p) a w':=by
 obtain⟨rfl,hm,_,_⟩:=AU hD;have d1:decide ((1048576:Int)<(p.length:Int))=false:=Ad zD;have hbk:Hid (CU p=A5 p.length++(if Fv p then 1::DG (Dx p) else 0::p)):=hid rfl;have hvl:(A5 p.length).length≤(CU p).length:=by rw[hbk.out];simp
 have HV:=hid (DQ w h p.length zD zD zD);have HPK:=hid (fun (W:World) (hl:Ah.r (·<W.heap.size) W [.slice ad p.length cd] p)=>NC W p ad _ cd hl hp);have HD:=hid hD;have HFIT:=hid hfit;have HLEN:=hid hlen;clear h hD hfit hlen hvl;generalize Fv p=R at*;generalize Dx p=E at*;generalize A5 p.length=V at*;generalize CU p=K at*;cases R
 ·have HK:Hid (K=V++(0::p)):=hid hbk.out
  clear hbk;go_enter Tryz.func74,Tryz.ntmps74;go_wp2_with fail;refine HV.out.mono ?_;rintro r w1 ⟨rfl,a1,c1,hp1,ht1,ha1⟩;have hs1:=ht1.size;have hD1:Ah.r (fun q=>q<w1.heap.size∧¬DH g a1 q) w1 [.slice ad p.length cd] p:=Ah.mono (Ah.keep HD.out fun q hq=>ht1.block q hq.1 hq.2) fun q hq=>⟨zD,Ff ha1 hq.1 hq.2⟩;have HD1:=hid hD1;clear hD1;go_wp2_with fail;refine (HPK.out _ (Ah.mono HD1.out fun q hq=>hq.1)).mono ?_;rintro r w2 ⟨v2,rfl,_,hv2,hb2⟩;obtain rfl:=hv2 trivial;have hs2:=hb2.size;have hp2:=hp1.later hb2;go_wp2_with fail;have hbW:Below w2.heap.size w2 (w2.alloc (.cells #[.int .u8 0] 5)):=zC;have hlit:Ah.r (·<(w2.alloc (.cells #[.int .u8 0] 5)).heap.size) (w2.alloc (.cells #[.int .u8 0] 5)) [.slice (some ⟨w2.heap.size,0,none⟩) 1 1] [0]:=KQ w2 0;generalize w2.alloc (.cells #[.int .u8 0] 5)=W at*;have hsW:=hbW.size;refine (E0 W (hp2.later hbW) [0] (some ⟨w2.heap.size,0,none⟩) 1 1 hlit Z7 Z5).mono ?_;rintro r w3 ⟨rfl,a3,c3,hp3,ht3,ha3⟩;have hs3:=ht3.size;have hD3:Ah.r (·<w3.heap.size) w3 [.slice ad p.length cd] p:=Ah.mono (Ah.keep HD1.out fun q hq=>(ht3.block q zD hq.2).trans ((hbW.block q zD).trans (hb2.block q hq.1))) fun q hq=>by omega
  have HQ:=hid (E0 w3 hp3 p ad _ cd hD3 Z7 Z5);clear hD3 hlit;go_wp2_with fail;refine HQ.out.mono ?_;rintro r w4 ⟨rfl,hst⟩;have hst2:=Ay.trans (J:=J) ht1 ha1 (Ay.later hb2 (Ay.later hbW (Ay.trans (J:=J) ht3 ha3 hst)));have HST:Hid (Ay w g base most (J++K) a w4):=hid (by rw[HK.out];simpa using hst2);clear hst hst2;go_wp2;first | go_end0 | refine Af (Av rfl _ _ _) rfl ?_
  exact⟨rfl,HST.out⟩
 ·have HK:Hid (K=V++(1::DG E)):=hid hbk.out
  clear hbk;go_enter Tryz.func74,Tryz.ntmps74;go_wp2_with fail;refine HV.out.mono ?_;rintro r w1 ⟨rfl,a1,c1,hp1,ht1,ha1⟩;have hs1:=ht1.size;have hD1:Ah.r (fun q=>q<w1.heap.size∧¬DH g a1 q) w1 [.slice ad p.length cd] p:=Ah.mono (Ah.keep HD.out fun q hq=>ht1.block q hq.1 hq.2) fun q hq=>⟨zD,Ff ha1 hq.1 hq.2⟩;have HD1:=hid hD1;clear hD1;go_wp2_with fail;refine (HPK.out _ (Ah.mono HD1.out fun q hq=>hq.1)).mono ?_;rintro r w2 ⟨v2,rfl,hv2,_,hb2⟩;obtain⟨a2,c2,hve,hr2,_⟩:=At (hv2 trivial);simp only[Ai,As] at hve;subst hve;have HE:=hid hr2;clear hv2 hr2;have hs2:=hb2.size;have hp2:=hp1.later hb2;go_wp2_with fail;have hbW:Below w2.heap.size w2 (w2.alloc (.cells #[.int .u8 1] 5)):=zC;have hlit:Ah.r (·<(w2.alloc (.cells #[.int .u8 1] 5)).heap.size) (w2.alloc (.cells #[.int .u8 1] 5)) [.slice (some ⟨w2.heap.size,0,none⟩) 1 1] [1]:=KQ w2 1;generalize w2.alloc (.cells #[.int .u8 1] 5)=W at*;have hsW:=hbW.size;refine (E0 W (hp2.later hbW) [1] (some ⟨w2.heap.size,0,none⟩) 1 1 hlit Z7 Z5).mono ?_;rintro r w3 ⟨rfl,a3,c3,hp3,ht3,ha3⟩;have hs3:=ht3.size;have hno:∀q,w1.heap.size≤q→¬DH g a1 q:=fun q hq hf=>by have:=(hp1.Dm hf).2;omega
  have hE3:Ah.r (fun q=>q<w3.heap.size∧¬DH g a3 q) w3 [.slice a2 E.length c2] E:=Ah.mono (Ah.keep HE.out fun q hq=>(ht3.block q zD (hno q hq.1)).trans (hbW.block q zD)) fun q hq=>⟨zD,Ff ha3 zD (hno q hq.1)⟩;have HQ:=hid (OZ w3 hp3 E a2 _ c2 hE3 Z7 Z5);clear hE3 hlit hno;go_wp2_with fail;refine HQ.out.mono ?_;rintro r w4 ⟨rfl,hst⟩;have hst2:=Ay.trans (J:=J) ht1 ha1 (Ay.later hb2 (Ay.later hbW (Ay.trans (J:=J) ht3 ha3 hst)));have HST:Hid (Ay w g base most (J++K) a w4):=hid (by rw[HK.out];simpa using hst2);clear hst hst2;go_wp2;first | go_end0 | refine Af (Av rfl _ _ _) rfl ?_
  exact⟨rfl,HST.out⟩
theorem LK(p:List UInt8):(CU p).length≤(A5 p.length).length+p.length+1:=by
 unfold CU;by_cases h:Fv p=true
 ·have h2:=h
  unfold Fv at h2;have h3:=Cu h2;rw[An h];simp;omega
 ·rw[Ak h]
  simp;omega
theorem Ku(w:World)(p:List UInt8)(a:Option Addr)(n c:Nat)(hl:Ah.r (·<w.heap.size) w [.slice a n c] p)(hp:p.length≤1048576):
  Calls Tryz.prog 200 #[.slice a n c] w fun r w'=>∃v,r=.returned (.tuple #[v,.int .i64 0])∧Ah.r (fun q=>w.heap.size≤q∧q<w'.heap.size) w' [v] (CU p)∧Below w.heap.size w w':=by
 obtain⟨rfl,hm,_,_⟩:=AU hl;have HS:=hid (J1 p.length zD w);have hbl:=LK p;have hvl:=Bj p.length;have HL:=hid hl;clear hl;generalize (A5 p.length).length=k at*;have hbK:=hid hbl;clear hbl;go_enter Tryz.func200,Tryz.ntmps200;go_wp2_with fail;refine HS.out.mono ?_;rintro r w1 ⟨rfl,hb1⟩;have HN:=hid (Jc w1 (k+p.length+1) zD);rw[show ((k+p.length+1:Nat):Int)=(k:Int)+(p.length:Int)+1 by omega] at HN;have hs1:=hb1.size;go_wp2_with fail;refine HN.out.mono ?_;rintro r w2 ⟨rfl,hp2,hb2⟩;have hs2:=hb2.size;have hbw2:=Ag hb2 hb1;have HQ:=hid (St w2 hp2 p a _ c (Ah.mono (Ah.keep HL.out fun q hq=>hbw2.block q hq) fun q hq=>⟨zD,fun hf=>by have:=(hp2.Dm hf).1;omega⟩) hp (by have:=hbK.out;simp;omega) (by have:=hbK.out;simp;omega));have HP2:=hid hp2;clear hp2;go_wp2_with fail;refine HQ.out.mono ?_;rintro r w3 ⟨rfl,hst⟩;have hb3:Below w1.heap.size w2 w3:=HP2.out.below (Aj _) zD hst;obtain⟨a3,c3,hp3,_,_⟩:=hst;rw[BU] at hp3;have hs3:=hb3.size;have hbw3:Below w.heap.size w w3:=hbw2.trans (hb3.mono zD);have HB:=hid (Ih w3 hp3);clear hp3;go_wp2_with fail;refine HB.out.mono ?_;rintro r w4 ⟨v,rfl,hv,hb4⟩;have hbe:=Ag hb4 hbw3;have HV:=hid (Ah.mono (S':=fun q=>w.heap.size≤q∧q<w4.heap.size) hv fun q hq=>⟨zV,hq.2⟩);clear hv;go_wp2;go_ret2
 exact⟨_,rfl,HV.out,hbe⟩
def Rs.inn(s:Rs)(L:Nat):Prop:=0≤s.f∧s.f≤L
theorem Rs.Jt(h:s.inn L){c at_:Int}(h1:0≤at_)(h2:at_≤L):(s.fail c at_).inn L:=by
 unfold Rs.fail;split
 ·exact⟨h1,h2⟩
 ·exact h
theorem Rs.Ug(h:s.ok L)(hi:s.inn L)(n:Int):(s.skip L n).2.inn L:=by
 have:=h.le;unfold Rs.skip Rs.inn at*;split
 ·split
  ·dsimp only;omega
  ·split
   ·dsimp only;omega
   ·dsimp only;omega
 ·exact hi
theorem Rs.Tq(h:s.ok B.length)(hi:s.inn B.length):(s.num B).1.inn B.length:=by
 have hu:=FG (B.drop s.p) 0 0;have hl:(B.drop s.p).length=B.length-s.p:=zP;have:=h.le;unfold Rs.num Rs.inn at*;split
 ·dsimp only
  split
  ·omega
  ·split
   ·omega
   ·rename_i h1 h2
    have:=hu.2.2.2.2 h2;omega
 ·exact hi
theorem Rs.Uu(h:s.ok B.length)(hi:s.inn B.length):(s.head B).1.inn B.length:=by
 have hle:=h.le;have hn:=Rs.Tq h hi;unfold Rs.head;split
 ·split
  ·split
   ·exact Rs.Jt hn zD zD
   ·exact hn
  ·split
   ·exact Rs.Jt hn zD zD
   ·exact hn
 ·exact hn
theorem Rs.JK(h:s.ok B.length)(hi:s.inn B.length):(s.offset B).1.inn B.length:=by
 have hle:=h.le;have hn:=Rs.Tq h hi;unfold Rs.offset;dsimp only;split
 ·exact Rs.Jt hn zD zD
 ·exact hn
theorem Sh(h:s.ok B.length)(hi:s.inn B.length):(BQ B bound s out).1.inn B.length:=by
 have hle:=h.le;have hh:=Rs.Uu h hi;have ho:=Rs.GW h;have hle2:=ho.le;unfold BQ;split
 ·exact Rs.Jt hh zD zD
 ·split
  ·exact Rs.Ug ho hh _
  ·split
   ·exact Rs.Jt (Rs.JK ho hh) zD zD
   ·split
    ·exact Rs.JK ho hh
    ·exact Rs.JK ho hh
theorem TL:∀(f:Nat) (s:Rs) (out:List UInt8),s.ok B.length→s.inn B.length→(exF B bound f s out).1.inn B.length
 | 0,s,out,_,h=>h
 | f+1,s,out,h1,h2=>by
  simp only[exF];split
  ·exact TL f _ _ (Ik h1) (Sh h1 h2)
  ·exact h2
theorem OJ:∀(f:Nat) (s:Rs) (out:List UInt8),OI bound out→OI bound (exF B bound f s out).2
 | 0,s,out,h=>h
 | f+1,s,out,h=>by
  simp only[exF];split
  ·exact OJ f _ _ (JS h)
  ·exact h
theorem JT(B:List UInt8)(bound:Int):(exB B bound).1.length≤bound.toNat∧0≤(exB B bound).2.2∧(exB B bound).2.2≤B.length∧((exB B bound).2.1≠0→(exB B bound).1=[]):=by
 have h1:=TL (B:=B) (bound:=bound) B.length ⟨0,0,0⟩ [] ⟨Ao _,fun _=>rfl⟩ ⟨zP,zP⟩;have h2:=OJ (B:=B) (bound:=bound) B.length ⟨0,0,0⟩ [] (.inl rfl);unfold exB;split
 ·refine⟨?_,zP,zP,zP⟩
  rcases h2 with h | h
  ·rw[h];simp
  ·dsimp only;omega
 ·exact⟨zP,h1.1,h1.2,zP⟩
theorem Rs.Ty{m:Int}:s.p≤(s.int B m).1.p:=by
 unfold Rs.int Rs.most;split
 ·split
  ·rw[Rs.Nt];exact Rs.Tp
  ·exact Rs.Tp
 ·rw[Rs.Nt];exact Rs.Tp
theorem Rs.JZ(h:s.ok B.length):s.p≤(s.byte B).1.p:=Rs.SM h 1
theorem Rs.Pc(h:s.ok B.length)(n:Int):s.p≤(s.take B n).1.p:=Rs.SM h n
theorem Rs.TV(h:s.ok B.length)(m:Int):s.p≤(s.Cd B m).1.p:=A4 (Rs.Ty (m:=m)) (Rs.Pc (Rs.Eh h) _)
theorem Rs.FB(h:s.ok B.length)(m:Int):(s.Cd B m).1.ok B.length:=Rs.GI (Rs.Eh h) _
def Rs.unp(B:List UInt8)(s:Rs)(n:Nat):Rs × List UInt8:=
 if (s.Cd B 1048576).1.k=0 then
  (if (exB (s.Cd B 1048576).2 n).2.1=0 then
   (if (exB (s.Cd B 1048576).2 n).1.length<n then ((s.Cd B 1048576).1.fail 3 (s.Cd B 1048576).1.p,(exB (s.Cd B 1048576).2 n).1) else ((s.Cd B 1048576).1,(exB (s.Cd B 1048576).2 n).1))
  else ((s.Cd B 1048576).1.fail (exB (s.Cd B 1048576).2 n).2.1 ((exB (s.Cd B 1048576).2 n).2.2+(((s.Cd B 1048576).1.p:Int)-((s.Cd B 1048576).2.length:Int))),[]))
 else ((s.Cd B 1048576).1,[])
theorem Rs.SD(h:s.ok B.length)(n:Nat):(s.unp B n).1.ok B.length:=by
 unfold Rs.unp;split
 ·split
  ·split
   ·exact Rs.BH (Rs.FB h _) zD
   ·exact Rs.FB h _
  ·exact Rs.BH (Rs.FB h _) zN
 ·exact Rs.FB h _
theorem Rs.Vb(h:s.ok B.length)(n:Nat):s.p≤(s.unp B n).1.p:=by
 have:=Rs.TV h 1048576;unfold Rs.unp;split
 ·split
  ·split
   ·rw[Rs.Nt];exact this
   ·exact this
  ·rw[Rs.Nt];exact this
 ·exact this
theorem Rs.QT(n:Nat):(s.unp B n).2.length≤n:=by
 have:=(JT (s.Cd B 1048576).2 n).1;unfold Rs.unp;split
 ·split
  ·split
   ·dsimp only;omega
   ·dsimp only;omega
  ·simp
 ·simp
def Rs.loose(B:List UInt8)(s:Rs)(most:Int):Rs × List UInt8 × Bool:=
 if ((s.int B (min most 1048576)).1.byte B).1.k=0 then
  (if ((s.int B (min most 1048576)).1.byte B).2.toNat=0 then
   (if (((s.int B (min most 1048576)).1.byte B).1.take B ((s.int B (min most 1048576)).2:Int)).1.k=0 then ((((s.int B (min most 1048576)).1.byte B).1.take B ((s.int B (min most 1048576)).2:Int)).1,(((s.int B (min most 1048576)).1.byte B).1.take B ((s.int B (min most 1048576)).2:Int)).2,decide (CU (((s.int B (min most 1048576)).1.byte B).1.take B ((s.int B (min most 1048576)).2:Int)).2=(B.drop s.p).take ((((s.int B (min most 1048576)).1.byte B).1.take B ((s.int B (min most 1048576)).2:Int)).1.p-s.p)))
   else ((((s.int B (min most 1048576)).1.byte B).1.take B ((s.int B (min most 1048576)).2:Int)).1,[],false))
  else if ((s.int B (min most 1048576)).1.byte B).2.toNat=1 then
   (if (((s.int B (min most 1048576)).1.byte B).1.unp B (s.int B (min most 1048576)).2).1.k=0 then ((((s.int B (min most 1048576)).1.byte B).1.unp B (s.int B (min most 1048576)).2).1,(((s.int B (min most 1048576)).1.byte B).1.unp B (s.int B (min most 1048576)).2).2,decide (CU (((s.int B (min most 1048576)).1.byte B).1.unp B (s.int B (min most 1048576)).2).2=(B.drop s.p).take ((((s.int B (min most 1048576)).1.byte B).1.unp B (s.int B (min most 1048576)).2).1.p-s.p)))
   else ((((s.int B (min most 1048576)).1.byte B).1.unp B (s.int B (min most 1048576)).2).1,[],false))
  else (((s.int B (min most 1048576)).1.byte B).1.fail 7 ((((s.int B (min most 1048576)).1.byte B).1.p:Int)-1),[],false))
 else (((s.int B (min most 1048576)).1.byte B).1,[],false)
theorem Ks(x y:List UInt8)(a a':Option Addr)(n c n' c':Nat)(w:World)(hx:Ah.r (·<w.heap.size) w [.slice a n c] x)(hy:Ah.r (·<w.heap.size) w [.slice a' n' c'] y):
  Calls Tryz.prog 97 #[.slice a n c,.slice a' n' c'] w fun r w'=>r=.returned (.bool (decide (x=y)))∧w=w':=by
 obtain⟨rfl,_,_,_⟩:=AU hx;obtain⟨rfl,_,_,_⟩:=AU hy;have h1:=Io (P:=Tryz.prog) 25 9 5 AK Tryz.underlying5 Tryz.underlying9 hx;have h2:=Io (P:=Tryz.prog) 25 9 5 AK Tryz.underlying5 Tryz.underlying9 hy;have he:(x==y)=decide (x=y):=by
  by_cases h:x=y
  ·simp[h]
  ·simp[h]
 have HE:=hid he;clear he hx hy;go_enter Tryz.func97,Tryz.ntmps97;go_wp2;go_ret;refine⟨?_,rfl⟩;rw[←HE.out];simp[go_sem]
theorem OG(w:World)(k f b:Int)(hk:k≠0)(hf: -1000000000000≤f∧f≤1000000000000)(hb: -1000000000000≤b∧b≤1000000000000):Calls Tryz.prog 143 #[.agg #[.int .i64 k,.int .i64 f],.int .i64 b] w fun r w'=>r=.returned (.agg #[.int .i64 k,.int .i64 (f+b)])∧Below w.heap.size w w':=by
 go_enter Tryz.func143,Tryz.ntmps143;go_wp2_with fail;refine (Js _ k (f+b) hk).mono ?_;rintro r w1 ⟨rfl,hb1⟩;have B1:Blk w1 (w.heap.size+1) 58 #[.int .i64 0,.int .i64 0]:=Blk.later zB hb1;obtain⟨y0,y1,g0,g1,l1⟩:=A1 B1;have hbw:Below w.heap.size w w1:=zA;clear B1 hb1;go_wp2;refine Af (v:=.agg #[.int .i64 k,.int .i64 (f+b)]) (by simp[results,Tryz.results143,go_sem,y0,y1,l1]) rfl ⟨rfl,zA⟩
theorem LJ(w:World){g:Nat}{B:List UInt8}{a:Option Addr}{s:Rs}(h:AY w g B a s)(hB:B.length≤1000000000)(n:Nat)(hn:n≤1048576):Calls Tryz.prog 199 #[.pointer (some ⟨g,0,none⟩),.int .i64 (n:Int)] w fun r w'=>∃v,r=.returned v∧Ah.r (fun q=>w.heap.size≤q∧q<w'.heap.size) w' [v] (s.unp B n).2∧AB w g B a (s.unp B n).1 w':=by
 have HB:=hid (MT w h zD 1048576 zD);have hbok:=Rs.FB h.ok 1048576;have hlen:(s.Cd B 1048576).2.length≤B.length:=by
  unfold Rs.Cd Rs.take;dsimp only;split
  ·simp;omega
  ·simp
 have hxf:=JT (s.Cd B 1048576).2 n;have hX:=hid (fun (W:World) (aD:Option Addr) (nD cD:Nat) (hl:Ah.r (·<W.heap.size) W [.slice aD nD cD] (s.Cd B 1048576).2)=>Nu W (s.Cd B 1048576).2 aD nD cD hl zD n zD);have hpl:=hbok.le;unfold Rs.unp;generalize s.Cd B 1048576=T at*;generalize exB T.2 n=X at*;obtain⟨s1,D⟩:=T;obtain⟨out,k,f⟩:=X;dsimp only at*;have hgl:=h.blk.lt;have HDAT:=hid h.dat;clear h;by_cases h1:s1.k=0
 ·have dk:decide (s1.k=0)=true:=Ae h1
  rw[An h1];have H1:=hid h1;clear h1;by_cases h2:k=0
  ·have d2:decide (k=0)=true:=Ae h2
   rw[An h2];clear h2;by_cases h3:out.length<n
   ·have d3:decide ((out.length:Int)<(n:Int))=true:=Ae zD
    have d3':decide (out.length<n)=true:=Ae h3;rw[An h3];clear h3;dsimp only;go_enter Tryz.func199,Tryz.ntmps199;go_wp2_with fail;refine HB.out.mono ?_;rintro r w1 ⟨v,rfl,hr,hst⟩;obtain⟨aD,cD,hv,hr2,_⟩:=At hr;simp only[Ai,As] at hv;subst hv;have HD1:=hid hr2;have HST:=hid hst;have hs1:=hst.size;have hG:=AG w1 hst.1;rw[dk] at hG;have HG:=hid hG;clear hr hr2 hst hG dk;go_wp2_with fail;refine HG.out.mono ?_;rintro r w2 ⟨rfl,hb2⟩;have hs2:=hb2.size;have HAT:=hid (Cc w2 (HST.out.1.later hb2));go_wp2_with fail;refine HAT.out.mono ?_;rintro r w2' ⟨rfl,rfl⟩;go_wp2_with fail;refine (hX.out w2 aD _ cD (Ah.mono (Ah.keep HD1.out fun q hq=>hb2.block q hq.2) fun q hq=>zD)).mono ?_;rintro r w3 ⟨v3,rfl,hr,hb3⟩;obtain⟨a3,c3,hv,hr2,_⟩:=At hr;simp only[Ai,As] at hv;subst hv;have HR3:=hid hr2;have hs3:=hb3.size;clear hr hr2;have hG:=CN (w3.alloc (.cells #[.int .i64 k,.int .i64 f] 58)) k f;rw[d2] at hG;have HG3:=hid hG;clear hG d2;go_wp2_with fail;refine HG3.out.mono ?_;rintro r w4 ⟨rfl,hb4⟩;have hb34:Below w3.heap.size w3 w4:=zA;have hb14:Below w1.heap.size w1 w4:=Ag hb34 (Ag hb3 hb2);have HST4:=hid (HST.out.then hb14);have hs4:=hb34.size;have HKP:=hid (Ah.mono (S':=fun q=>w2.heap.size≤q∧q<w4.heap.size) (Ah.keep HR3.out fun q hq=>hb34.block q hq.2) fun q hq=>⟨hq.1,zD⟩);have HAT2:=hid (Cc _ HST4.out.1);go_wp2_with fail;refine HAT2.out.mono ?_;rintro r w4' ⟨rfl,rfl⟩;have HF:=hid (Br _ HST4.out.1 3 s1.p zD);go_wp2_with fail;refine HF.out.mono ?_;rintro r w5 ⟨rfl,hst5⟩;have hs5:=hst5.size;have HR5:=hid (Ah.mono (S':=fun q=>w.heap.size≤q∧q<w5.heap.size) (Ah.keep HKP.out fun q hq=>hst5.2.block q hq.2 zD) fun q hq=>⟨zD,zD⟩);have HST5:=hid (AB.trans HST4.out.2 hst5);clear hst5;go_wp2;go_ret;exact⟨_,rfl,HR5.out,HST5.out⟩
   ·have d3:decide ((out.length:Int)<(n:Int))=false:=Ad zD
    have d3':decide (out.length<n)=false:=Ad h3;rw[Ak h3];clear h3;dsimp only;go_enter Tryz.func199,Tryz.ntmps199;go_wp2_with fail;refine HB.out.mono ?_;rintro r w1 ⟨v,rfl,hr,hst⟩;obtain⟨aD,cD,hv,hr2,_⟩:=At hr;simp only[Ai,As] at hv;subst hv;have HD1:=hid hr2;have HST:=hid hst;have hs1:=hst.size;have hG:=AG w1 hst.1;rw[dk] at hG;have HG:=hid hG;clear hr hr2 hst hG dk;go_wp2_with fail;refine HG.out.mono ?_;rintro r w2 ⟨rfl,hb2⟩;have hs2:=hb2.size;have HAT:=hid (Cc w2 (HST.out.1.later hb2));go_wp2_with fail;refine HAT.out.mono ?_;rintro r w2' ⟨rfl,rfl⟩;go_wp2_with fail;refine (hX.out w2 aD _ cD (Ah.mono (Ah.keep HD1.out fun q hq=>hb2.block q hq.2) fun q hq=>zD)).mono ?_;rintro r w3 ⟨v3,rfl,hr,hb3⟩;obtain⟨a3,c3,hv,hr2,_⟩:=At hr;simp only[Ai,As] at hv;subst hv;have HR3:=hid hr2;have hs3:=hb3.size;clear hr hr2;have hG:=CN (w3.alloc (.cells #[.int .i64 k,.int .i64 f] 58)) k f;rw[d2] at hG;have HG3:=hid hG;clear hG d2;go_wp2_with fail;refine HG3.out.mono ?_;rintro r w4 ⟨rfl,hb4⟩;have hb34:Below w3.heap.size w3 w4:=zA;have hb14:Below w1.heap.size w1 w4:=Ag hb34 (Ag hb3 hb2);have HST4:=hid (HST.out.then hb14);have hs4:=hb34.size;have HKP:=hid (Ah.mono (S':=fun q=>w2.heap.size≤q∧q<w4.heap.size) (Ah.keep HR3.out fun q hq=>hb34.block q hq.2) fun q hq=>⟨hq.1,zD⟩);have HR5:=hid (Ah.mono (S':=fun q=>w.heap.size≤q∧q<w4.heap.size) HKP.out fun q hq=>⟨zD,zD⟩);go_wp2;go_ret;exact⟨_,rfl,HR5.out,HST4.out⟩
  ·have d2:decide (k=0)=false:=Ad h2
   rw[Ak h2];have ho:=hxf.2.2.2 h2;subst ho;have HK2:=hid h2;clear h2;dsimp only;go_enter Tryz.func199,Tryz.ntmps199;go_wp2_with fail;refine HB.out.mono ?_;rintro r w1 ⟨v,rfl,hr,hst⟩;obtain⟨aD,cD,hv,hr2,_⟩:=At hr;simp only[Ai,As] at hv;subst hv;have HD1:=hid hr2;have HST:=hid hst;have hs1:=hst.size;have hG:=AG w1 hst.1;rw[dk] at hG;have HG:=hid hG;clear hr hr2 hst hG dk;go_wp2_with fail;refine HG.out.mono ?_;rintro r w2 ⟨rfl,hb2⟩;have hs2:=hb2.size;have HAT:=hid (Cc w2 (HST.out.1.later hb2));go_wp2_with fail;refine HAT.out.mono ?_;rintro r w2' ⟨rfl,rfl⟩;go_wp2_with fail;refine (hX.out w2 aD _ cD (Ah.mono (Ah.keep HD1.out fun q hq=>hb2.block q hq.2) fun q hq=>zD)).mono ?_;rintro r w3 ⟨v3,rfl,hr,hb3⟩;obtain⟨a3,c3,hv,hr2,_⟩:=At hr;simp only[Ai,As] at hv;subst hv;have HR3:=hid hr2;have hs3:=hb3.size;clear hr hr2;have hG:=CN (w3.alloc (.cells #[.int .i64 k,.int .i64 f] 58)) k f;rw[d2] at hG;have HG3:=hid hG;clear hG d2;go_wp2_with fail;refine HG3.out.mono ?_;rintro r w4 ⟨rfl,hb4⟩;have hb34:Below w3.heap.size w3 w4:=zA;have hb14:Below w1.heap.size w1 w4:=Ag hb34 (Ag hb3 hb2);have HST4:=hid (HST.out.then hb14);have hs4:=hb34.size;have HKP:=hid (Ah.mono (S':=fun q=>w2.heap.size≤q∧q<w4.heap.size) (Ah.keep HR3.out fun q hq=>hb34.block q hq.2) fun q hq=>⟨hq.1,zD⟩);have B4:Blk w4 w3.heap.size 58 #[.int .i64 k,.int .i64 f]:=Blk.later (Blk.newAt _ _ _ rfl) hb4;obtain⟨y0,y1,g0,g1,l1⟩:=A1 B4;have HSH:=hid (OG w4 k f ((s1.p:Int)-(D.length:Int)) HK2.out zD zD);go_wp2_with fail;refine HSH.out.mono ?_;rintro r w5 ⟨rfl,hb5⟩;have B5:=B4.later hb5;clear y0 y1 g0 g1 l1 B4;obtain⟨y0,y1,g0,g1,l1⟩:=A1 B5;clear B5;have hk5:AB w g B a s1 ((w5.setCell ⟨w3.heap.size,0,none⟩ (.int .i64 k)).setCell ⟨w3.heap.size,1,none⟩ (.int .i64 (f+((s1.p:Int)-(D.length:Int))))):=by
    have h5:=HST4.out.then hb5;refine⟨⟨Blk.far (Blk.far h5.1.blk zH _) zH _,?_,h5.1.ok⟩,Tch.setCell (Tch.setCell h5.2 (fun e=>by dsimp only at e;omega) _) (fun e=>by dsimp only at e;omega) _⟩;refine Ah.mono (Ah.keep (S:=fun q=>q<w.heap.size∧q≠g) (Ah.keep HDAT.out fun q hq=>h5.2.block q hq.1 hq.2) fun q hq=> ?_) fun q hq=>⟨by have:=h5.size;simp[World.setCell];omega,hq.2⟩;have:=hq.1;rw[Ap _ _ _ _ zH,Ap _ _ _ _ zH]
   have HK5:=hid hk5;clear hk5;have hsz5:w.heap.size≤((w5.setCell ⟨w3.heap.size,0,none⟩ (.int .i64 k)).setCell ⟨w3.heap.size,1,none⟩ (.int .i64 (f+((s1.p:Int)-(D.length:Int))))).heap.size:=HK5.out.size;have HF:=hid (Br _ HK5.out.1 k (f+((s1.p:Int)-(D.length:Int))) HK2.out);go_wp2_with fail;refine HF.out.mono ?_;rintro r w6 ⟨rfl,hst6⟩;have HST6:=hid (AB.trans HK5.out.2 hst6);clear hst6 hsz5;go_wp2;go_ret;exact⟨_,rfl,AT rfl rfl (AU HR3.out).2.2.2,HST6.out⟩
 ·have dk:decide (s1.k=0)=false:=Ad h1
  rw[Ak h1];clear h1;dsimp only;go_enter Tryz.func199,Tryz.ntmps199;go_wp2_with fail;refine HB.out.mono ?_;rintro r w1 ⟨v,rfl,hr,hst⟩;obtain⟨aD,cD,hv,hr2,_⟩:=At hr;simp only[Ai,As] at hv;subst hv;have HD1:=hid hr2;have HST:=hid hst;have hs1:=hst.size;have hG:=AG w1 hst.1;rw[dk] at hG;have HG:=hid hG;clear hr hr2 hst hG dk;go_wp2_with fail;refine HG.out.mono ?_;rintro r w2 ⟨rfl,hb2⟩;have hs2:=hb2.size;have HST2:=hid (HST.out.then hb2);go_wp2;go_ret;exact⟨_,rfl,AT rfl rfl zD,HST2.out⟩
theorem Kt(w:World){g:Nat}{B:List UInt8}{a:Option Addr}{s:Rs}(h:AY w g B a s)(hB:B.length≤1000000000)(most:Int)(hm: -9223372036854775808≤most∧most≤9223372036854775807):
  Calls Tryz.prog 119 #[.pointer (some ⟨g,0,none⟩),.int .i64 most] w fun r w'=>∃v,r=.returned (.tuple #[v,.bool (s.loose B most).2.2])∧Ah.r (fun q=>w.heap.size≤q∧q<w'.heap.size) w' [v] (s.loose B most).2.1∧AB w g B a (s.loose B most).1 w':=by
 have hgl:=h.blk.lt;have HA:=hid (Cc w h);have HI:=hid (DR w h zD (min most 1048576) zD);have hiok:=Rs.Eh h.ok (m:=min most 1048576);have hip:=Rs.Ty (B:=B) (s:=s) (m:=min most 1048576);have hile:(s.int B (min most 1048576)).2≤1048576:=zCg;have hbok:=Rs.Gl hiok;have hbp:=Rs.JZ hiok;have hBY:=hid (fun (W:World) (h:AY W g B a (s.int B (min most 1048576)).1)=>KO W h);have hTK:=hid (fun (W:World) (h:AY W g B a ((s.int B (min most 1048576)).1.byte B).1)=>KM W h ((s.int B (min most 1048576)).2:Int) zD zD);have htp:=Rs.Pc hbok ((s.int B (min most 1048576)).2:Int);have htl:(((s.int B (min most 1048576)).1.byte B).1.take B ((s.int B (min most 1048576)).2:Int)).2.length≤1048576:=by
  by_cases h0:(((s.int B (min most 1048576)).1.byte B).1.take B ((s.int B (min most 1048576)).2:Int)).1.k=0
  ·rw[(Rs.Gs h0).2.2];omega
  ·rw[Rs.I0 h0];simp
 have hUN:=hid (fun (W:World) (h:AY W g B a ((s.int B (min most 1048576)).1.byte B).1)=>LJ W h hB (s.int B (min most 1048576)).2 hile);have hup:=Rs.Vb hbok (s.int B (min most 1048576)).2;have hul:(((s.int B (min most 1048576)).1.byte B).1.unp B (s.int B (min most 1048576)).2).2.length≤1048576:=A4 (Rs.QT _) hile;have hFL:=hid (fun (W:World) (h:AY W g B a ((s.int B (min most 1048576)).1.byte B).1)=>Br W h 7 ((((s.int B (min most 1048576)).1.byte B).1.p:Int)-1) zD);have hfk:=Rs.BV (s:=((s.int B (min most 1048576)).1.byte B).1) (c:=7) (at_:=((((s.int B (min most 1048576)).1.byte B).1.p:Int)-1)) zD;have hSN:=hid (fun (W:World) (t:Rs) (h:AY W g B a t) (hp:s.p≤t.p)=>SY W h s.p hp zD);have hbyp:((s.int B (min most 1048576)).1.byte B).1.p≤B.length:=hbok.le;have hb1:((s.int B (min most 1048576)).1.byte B).1.k=0→1≤((s.int B (min most 1048576)).1.byte B).1.p:=fun hk=>by rw[JZ rfl hk];omega
 unfold Rs.loose;generalize ((s.int B (min most 1048576)).1.byte B).1.fail 7 ((((s.int B (min most 1048576)).1.byte B).1.p:Int)-1)=F1 at*;generalize ((s.int B (min most 1048576)).1.byte B).1.take B ((s.int B (min most 1048576)).2:Int)=T at*;generalize ((s.int B (min most 1048576)).1.byte B).1.unp B (s.int B (min most 1048576)).2=U at*;generalize (s.int B (min most 1048576)).1.byte B=Y at*;generalize s.int B (min most 1048576)=N at*;obtain⟨sd,n⟩:=N;obtain⟨se,y⟩:=Y;obtain⟨st,DT⟩:=T;obtain⟨su,DU⟩:=U;dsimp only at*;have hSNt:=hid (fun (W:World) (h:AY W g B a st)=>hSN.out W st h zD);have hSNu:=hid (fun (W:World) (h:AY W g B a su)=>hSN.out W su h zD);generalize (B.drop s.p).take (st.p-s.p)=S1 at*;generalize (B.drop s.p).take (su.p-s.p)=S2 at*;clear hSN;have hM:(if most≤1048576 then most else 1048576)=min most 1048576:=by split<;>omega
 have hM2:(if (1048576:Int)<most then (1048576:Int) else most)=min most 1048576:=by split<;>omega
 generalize min most 1048576=M at*;have hy:=y.toNat_lt;clear h;by_cases hk:se.k=0
 ·have dk:decide (se.k=0)=true:=Ae hk
  have hp1:=hb1 hk;rw[An hk];clear hk hb1;by_cases h0:y.toNat=0
  ·have d0:((y.toNat:Int)==0)=true:=by rw[h0];rfl
   rw[An h0];clear h0;by_cases ht:st.k=0
   ·have dt:decide (st.k=0)=true:=Ae ht
    rw[An ht];clear ht;dsimp only;go_enter Tryz.func119,Tryz.ntmps119;go_wp2_with fail;refine HA.out.mono ?_;rintro r w0 ⟨rfl,rfl⟩;go_wp2_with fail;refine HI.out.mono ?_;rintro r w1 ⟨rfl,hst1⟩;have HST1:=hid hst1;have HBY:=hid (hBY.out w1 hst1.1);clear hst1;go_wp2_with fail;refine HBY.out.mono ?_;rintro r w2 ⟨rfl,hst2⟩;have HST2:=hid (AB.trans HST1.out.2 hst2);have hG:=AG w2 hst2.1;rw[dk] at hG;have HG:=hid hG;clear hst2 hG dk;go_wp2_with fail;refine HG.out.mono ?_;rintro r w3 ⟨rfl,hb3⟩;have HST3:=hid (HST2.out.then hb3);have hs3:=HST3.out.size;have HC:=hid (hTK.out w3 HST3.out.1);go_wp2_with fail;refine HC.out.mono ?_;rintro r w4 ⟨v,rfl,hr,hst4⟩;obtain⟨aD,cD,hv,hr2,_⟩:=At hr;simp only[Ai,As] at hv;subst hv;have HR4:=hid hr2;have hs4:=hst4.size;have HST4:=hid (AB.trans HST3.out.2 hst4);have hG4:=AG w4 hst4.1;rw[dt] at hG4;have HG4:=hid hG4;clear hr hr2 hst4 hG4 dt;go_wp2_with fail;refine HG4.out.mono ?_;rintro r w5 ⟨rfl,hb5⟩;have HST5:=hid (HST4.out.then hb5);have hs5:=hb5.size;have HR5:=hid (Ah.mono (S':=fun q=>w3.heap.size≤q∧q<w5.heap.size) (Ah.keep HR4.out fun q hq=>hb5.block q hq.2) fun q hq=>⟨hq.1,zD⟩);have HBB:=hid (Ku w5 DT aD _ cD (Ah.mono HR5.out fun q hq=>hq.2) htl);go_wp2_with fail;refine HBB.out.mono ?_;rintro r w6 ⟨v6,rfl,hr,hb6⟩;obtain⟨a6,c6,hv,hr2,_⟩:=At hr;simp only[Ai,As] at hv;subst hv;have HR6:=hid hr2;have hs6:=hb6.size;have HST6:=hid (HST5.out.then hb6);have HSN:=hid (hSNt.out w6 HST6.out.1);clear hr hr2;go_wp2_with fail;refine HSN.out.mono ?_;rintro r w7 ⟨v7,rfl,hr,hb7⟩;obtain⟨a7,c7,hv,hr2,_⟩:=At hr;simp only[Ai,As] at hv;subst hv;have HR7:=hid hr2;have hs7:=hb7.size;have HST7:=hid (HST6.out.then hb7);have HEQ:=hid (Ks (CU DT) S1 a6 a7 _ c6 _ c7 w7 (Ah.mono (Ah.keep HR6.out fun q hq=>hb7.block q hq.2) fun q hq=>zD) (Ah.mono HR7.out fun q hq=>hq.2));generalize hq:decide (CU DT=S1)=q at*;have HQ:=hid hq;clear hq;clear hr hr2;go_wp2_with fail;refine HEQ.out.mono ?_;rintro r w8 ⟨rfl,rfl⟩;have HRF:=hid (Ah.mono (S':=fun q=>w.heap.size≤q∧q<w7.heap.size) (Ah.keep HR5.out fun q hq=>(hb7.block q zD).trans (hb6.block q hq.2)) fun q hq=>⟨zD,zD⟩);go_wp2;go_ret2
    rw[HQ.out];exact⟨_,rfl,HRF.out,HST7.out⟩
   ·have dt:decide (st.k=0)=false:=Ad ht
    rw[Ak ht];clear ht;dsimp only;go_enter Tryz.func119,Tryz.ntmps119;go_wp2_with fail;refine HA.out.mono ?_;rintro r w0 ⟨rfl,rfl⟩;go_wp2_with fail;refine HI.out.mono ?_;rintro r w1 ⟨rfl,hst1⟩;have HST1:=hid hst1;have HBY:=hid (hBY.out w1 hst1.1);clear hst1;go_wp2_with fail;refine HBY.out.mono ?_;rintro r w2 ⟨rfl,hst2⟩;have HST2:=hid (AB.trans HST1.out.2 hst2);have hG:=AG w2 hst2.1;rw[dk] at hG;have HG:=hid hG;clear hst2 hG dk;go_wp2_with fail;refine HG.out.mono ?_;rintro r w3 ⟨rfl,hb3⟩;have HST3:=hid (HST2.out.then hb3);have hs3:=HST3.out.size;have HC:=hid (hTK.out w3 HST3.out.1);go_wp2_with fail;refine HC.out.mono ?_;rintro r w4 ⟨v,rfl,hr,hst4⟩;obtain⟨aD,cD,hv,hr2,_⟩:=At hr;simp only[Ai,As] at hv;subst hv;have HR4:=hid hr2;have hs4:=hst4.size;have HST4:=hid (AB.trans HST3.out.2 hst4);have hG4:=AG w4 hst4.1;rw[dt] at hG4;have HG4:=hid hG4;clear hr hr2 hst4 hG4 dt;go_wp2_with fail;refine HG4.out.mono ?_;rintro r w5 ⟨rfl,hb5⟩;have HST5:=hid (HST4.out.then hb5);have hs5:=hb5.size;go_wp2;go_ret2
    exact⟨_,rfl,AT rfl rfl zD,HST5.out⟩
  ·have d0:((y.toNat:Int)==0)=false:=by rw[Cr];omega
   rw[Ak h0];by_cases h1:y.toNat=1
   ·have d1:((y.toNat:Int)==1)=true:=by rw[h1];rfl
    rw[An h1];clear h0 h1;by_cases ht:su.k=0
    ·have dt:decide (su.k=0)=true:=Ae ht
     rw[An ht];clear ht;dsimp only;go_enter Tryz.func119,Tryz.ntmps119;go_wp2_with fail;refine HA.out.mono ?_;rintro r w0 ⟨rfl,rfl⟩;go_wp2_with fail;refine HI.out.mono ?_;rintro r w1 ⟨rfl,hst1⟩;have HST1:=hid hst1;have HBY:=hid (hBY.out w1 hst1.1);clear hst1;go_wp2_with fail;refine HBY.out.mono ?_;rintro r w2 ⟨rfl,hst2⟩;have HST2:=hid (AB.trans HST1.out.2 hst2);have hG:=AG w2 hst2.1;rw[dk] at hG;have HG:=hid hG;clear hst2 hG dk;go_wp2_with fail;refine HG.out.mono ?_;rintro r w3 ⟨rfl,hb3⟩;have HST3:=hid (HST2.out.then hb3);have hs3:=HST3.out.size;have HC:=hid (hUN.out w3 HST3.out.1);go_wp2_with fail;refine HC.out.mono ?_;rintro r w4 ⟨v,rfl,hr,hst4⟩;obtain⟨aD,cD,hv,hr2,_⟩:=At hr;simp only[Ai,As] at hv;subst hv;have HR4:=hid hr2;have hs4:=hst4.size;have HST4:=hid (AB.trans HST3.out.2 hst4);have hG4:=AG w4 hst4.1;rw[dt] at hG4;have HG4:=hid hG4;clear hr hr2 hst4 hG4 dt;go_wp2_with fail;refine HG4.out.mono ?_;rintro r w5 ⟨rfl,hb5⟩;have HST5:=hid (HST4.out.then hb5);have hs5:=hb5.size;have HR5:=hid (Ah.mono (S':=fun q=>w3.heap.size≤q∧q<w5.heap.size) (Ah.keep HR4.out fun q hq=>hb5.block q hq.2) fun q hq=>⟨hq.1,zD⟩);have HBB:=hid (Ku w5 DU aD _ cD (Ah.mono HR5.out fun q hq=>hq.2) hul);go_wp2_with fail;refine HBB.out.mono ?_;rintro r w6 ⟨v6,rfl,hr,hb6⟩;obtain⟨a6,c6,hv,hr2,_⟩:=At hr;simp only[Ai,As] at hv;subst hv;have HR6:=hid hr2;have hs6:=hb6.size;have HST6:=hid (HST5.out.then hb6);have HSN:=hid (hSNu.out w6 HST6.out.1);clear hr hr2;go_wp2_with fail;refine HSN.out.mono ?_;rintro r w7 ⟨v7,rfl,hr,hb7⟩;obtain⟨a7,c7,hv,hr2,_⟩:=At hr;simp only[Ai,As] at hv;subst hv;have HR7:=hid hr2;have hs7:=hb7.size;have HST7:=hid (HST6.out.then hb7);have HEQ:=hid (Ks (CU DU) S2 a6 a7 _ c6 _ c7 w7 (Ah.mono (Ah.keep HR6.out fun q hq=>hb7.block q hq.2) fun q hq=>zD) (Ah.mono HR7.out fun q hq=>hq.2));generalize hq:decide (CU DU=S2)=q at*;have HQ:=hid hq;clear hq;clear hr hr2;go_wp2_with fail;refine HEQ.out.mono ?_;rintro r w8 ⟨rfl,rfl⟩;have HRF:=hid (Ah.mono (S':=fun q=>w.heap.size≤q∧q<w7.heap.size) (Ah.keep HR5.out fun q hq=>(hb7.block q zD).trans (hb6.block q hq.2)) fun q hq=>⟨zD,zD⟩);go_wp2;go_ret2
     rw[HQ.out];exact⟨_,rfl,HRF.out,HST7.out⟩
    ·have dt:decide (su.k=0)=false:=Ad ht
     rw[Ak ht];clear ht;dsimp only;go_enter Tryz.func119,Tryz.ntmps119;go_wp2_with fail;refine HA.out.mono ?_;rintro r w0 ⟨rfl,rfl⟩;go_wp2_with fail;refine HI.out.mono ?_;rintro r w1 ⟨rfl,hst1⟩;have HST1:=hid hst1;have HBY:=hid (hBY.out w1 hst1.1);clear hst1;go_wp2_with fail;refine HBY.out.mono ?_;rintro r w2 ⟨rfl,hst2⟩;have HST2:=hid (AB.trans HST1.out.2 hst2);have hG:=AG w2 hst2.1;rw[dk] at hG;have HG:=hid hG;clear hst2 hG dk;go_wp2_with fail;refine HG.out.mono ?_;rintro r w3 ⟨rfl,hb3⟩;have HST3:=hid (HST2.out.then hb3);have hs3:=HST3.out.size;have HC:=hid (hUN.out w3 HST3.out.1);go_wp2_with fail;refine HC.out.mono ?_;rintro r w4 ⟨v,rfl,hr,hst4⟩;obtain⟨aD,cD,hv,hr2,_⟩:=At hr;simp only[Ai,As] at hv;subst hv;have HR4:=hid hr2;have hs4:=hst4.size;have HST4:=hid (AB.trans HST3.out.2 hst4);have hG4:=AG w4 hst4.1;rw[dt] at hG4;have HG4:=hid hG4;clear hr hr2 hst4 hG4 dt;go_wp2_with fail;refine HG4.out.mono ?_;rintro r w5 ⟨rfl,hb5⟩;have HST5:=hid (HST4.out.then hb5);have hs5:=hb5.size;go_wp2;go_ret2
     exact⟨_,rfl,AT rfl rfl zD,HST5.out⟩
   ·have d1:((y.toNat:Int)==1)=false:=by rw[Cr];omega
    rw[Ak h1];clear h0 h1;have dt:decide (F1.k=0)=false:=Ad hfk;dsimp only;go_enter Tryz.func119,Tryz.ntmps119;go_wp2_with fail;refine HA.out.mono ?_;rintro r w0 ⟨rfl,rfl⟩;go_wp2_with fail;refine HI.out.mono ?_;rintro r w1 ⟨rfl,hst1⟩;have HST1:=hid hst1;have HBY:=hid (hBY.out w1 hst1.1);clear hst1;go_wp2_with fail;refine HBY.out.mono ?_;rintro r w2 ⟨rfl,hst2⟩;have HST2:=hid (AB.trans HST1.out.2 hst2);have hG:=AG w2 hst2.1;rw[dk] at hG;have HG:=hid hG;clear hst2 hG dk;go_wp2_with fail;refine HG.out.mono ?_;rintro r w3 ⟨rfl,hb3⟩;have HST3:=hid (HST2.out.then hb3);have hs3:=HST3.out.size;have HAT3:=hid (Cc w3 HST3.out.1);go_wp2_with fail;refine HAT3.out.mono ?_;rintro r w3' ⟨rfl,rfl⟩;have HC:=hid (hFL.out w3 HST3.out.1);go_wp2_with fail;refine HC.out.mono ?_;rintro r w4 ⟨rfl,hst4⟩;have HST4:=hid (AB.trans HST3.out.2 hst4);have hG4:=AG w4 hst4.1;rw[dt] at hG4;have HG4:=hid hG4;clear hst4 hG4 dt;go_wp2_with fail;refine HG4.out.mono ?_;rintro r w5 ⟨rfl,hb5⟩;have HST5:=hid (HST4.out.then hb5);go_wp2;go_ret2
    exact⟨_,rfl,AT rfl rfl zD,HST5.out⟩
 ·have dk:decide (se.k=0)=false:=Ad hk
  rw[Ak hk];clear hk hb1;dsimp only;go_enter Tryz.func119,Tryz.ntmps119;go_wp2_with fail;refine HA.out.mono ?_;rintro r w0 ⟨rfl,rfl⟩;go_wp2_with fail;refine HI.out.mono ?_;rintro r w1 ⟨rfl,hst1⟩;have HST1:=hid hst1;have HBY:=hid (hBY.out w1 hst1.1);clear hst1;go_wp2_with fail;refine HBY.out.mono ?_;rintro r w2 ⟨rfl,hst2⟩;have HST2:=hid (AB.trans HST1.out.2 hst2);have hG:=AG w2 hst2.1;rw[dk] at hG;have HG:=hid hG;clear hst2 hG dk;go_wp2_with fail;refine HG.out.mono ?_;rintro r w3 ⟨rfl,hb3⟩;have HST3:=hid (HST2.out.then hb3);have hs3:=HST3.out.size;go_wp2;go_ret2
  exact⟨_,rfl,AT rfl rfl zD,HST3.out⟩
def Rs.strict(s:Rs × List UInt8 × Bool):Rs × List UInt8:=if s.1.k=0 then (if s.2.2=true then (s.1,s.2.1) else (s.1.fail 12 s.1.p,[])) else (s.1,[])
theorem NB(w:World){g:Nat}{B:List UInt8}{a:Option Addr}{s:Rs}(h:AY w g B a s)(q:Bool)(p:Nat):
  Calls Tryz.prog 197 #[.bool q,.func (Fn.func 180) #[.pointer (some ⟨g,0,none⟩)] #[],.int .i64 (p:Int)] w fun r w'=>r=.returned (.tuple #[])∧AB w g B a (if q=true then s else s.fail 12 p) w':=by
 have HF:=hid (Br w h 12 p zD);have HH:=hid h;clear h;cases q
 ·rw[Ak zP]
  go_enter Tryz.func197,Tryz.ntmps197;go_wp2_with fail;refine HF.out.mono ?_;rintro r w1 ⟨rfl,hst⟩;have HST:=hid hst;clear hst;go_wp2;go_end0
  exact⟨rfl,HST.out⟩
 ·rw[An rfl]
  go_enter Tryz.func197,Tryz.ntmps197;go_wp2;go_end0
  exact⟨rfl,AB.refl HH.out⟩
theorem QK(w:World){g:Nat}{B:List UInt8}{a:Option Addr}{s:Rs}(h:AY w g B a s)(hB:B.length≤1000000000)(most:Int)(hm: -9223372036854775808≤most∧most≤9223372036854775807):
  Calls Tryz.prog 117 #[.pointer (some ⟨g,0,none⟩),.int .i64 most] w fun r w'=>∃v,r=.returned v∧Ah.r (fun q=>w.heap.size≤q∧q<w'.heap.size) w' [v] (Rs.strict (s.loose B most)).2∧AB w g B a (Rs.strict (s.loose B most)).1 w':=by
 have HLS:=hid (Kt w h hB most hm);have hgl:=h.blk.lt;unfold Rs.strict;generalize s.loose B most=L at*;obtain⟨s1,D,q⟩:=L;dsimp only at*;have hfk:=Rs.BV (s:=s1) (c:=12) (at_:=(s1.p:Int)) zD;have hfb:s1.k≠0→s1.fail 12 s1.p=s1:=fun hk=>Rs.Bl hk;have hSC:=hid (fun (W:World) (h:AY W g B a s1)=>NB W h q s1.p);clear h;by_cases hk:s1.k=0
 ·rw[An hk]
  cases q
  ·have d1:decide ((s1.fail 12 s1.p).k=0)=false:=Ad hfk
   rw[Ak zP];rw[Ak zP] at hSC;generalize s1.fail 12 s1.p=s2 at*;clear hk hfk hfb;go_enter Tryz.func117,Tryz.ntmps117;go_wp2_with fail;refine HLS.out.mono ?_;rintro r w1 ⟨v,rfl,hr,hst⟩;obtain⟨aD,cD,hv,hr2,_⟩:=At hr;simp only[Ai,As] at hv;subst hv;have HST:=hid hst;have HR:=hid hr2;have hs1:=hst.size;have HAT:=hid (Cc w1 hst.1);have HSC:=hid (hSC.out w1 hst.1);clear hr hr2 hst;go_wp2_with fail;refine HAT.out.mono ?_;rintro r w1' ⟨rfl,rfl⟩;go_wp2_with fail;refine HSC.out.mono ?_;rintro r w2 ⟨rfl,hst2⟩;have HST2:=hid (AB.trans HST.out.2 hst2);have HRK:=hid (Ah.mono (S':=fun q=>w.heap.size≤q∧q<w2.heap.size) (Ah.keep HR.out fun q hq=>hst2.2.block q hq.2 zD) fun q hq=>⟨hq.1,Am hq.2 hst2.size⟩);have hG:=AG w2 hst2.1;rw[d1] at hG;have HG:=hid hG;clear hst2 hG d1;go_wp2_with fail;refine HG.out.mono ?_;rintro r w3 ⟨rfl,hb3⟩;have HST3:=hid (HST2.out.then hb3);go_wp2;go_ret;exact⟨_,rfl,AT rfl rfl zD,HST3.out⟩
  ·have d1:decide (s1.k=0)=true:=Ae hk
   rw[An rfl];rw[An rfl] at hSC;clear hk hfk hfb;go_enter Tryz.func117,Tryz.ntmps117;go_wp2_with fail;refine HLS.out.mono ?_;rintro r w1 ⟨v,rfl,hr,hst⟩;obtain⟨aD,cD,hv,hr2,_⟩:=At hr;simp only[Ai,As] at hv;subst hv;have HST:=hid hst;have HR:=hid hr2;have hs1:=hst.size;have HAT:=hid (Cc w1 hst.1);have HSC:=hid (hSC.out w1 hst.1);clear hr hr2 hst;go_wp2_with fail;refine HAT.out.mono ?_;rintro r w1' ⟨rfl,rfl⟩;go_wp2_with fail;refine HSC.out.mono ?_;rintro r w2 ⟨rfl,hst2⟩;have HST2:=hid (AB.trans HST.out.2 hst2);have HRK:=hid (Ah.mono (S':=fun q=>w.heap.size≤q∧q<w2.heap.size) (Ah.keep HR.out fun q hq=>hst2.2.block q hq.2 zD) fun q hq=>⟨hq.1,Am hq.2 hst2.size⟩);have hG:=AG w2 hst2.1;rw[d1] at hG;have HG:=hid hG;clear hst2 hG d1;go_wp2_with fail;refine HG.out.mono ?_;rintro r w3 ⟨rfl,hb3⟩;have HST3:=hid (HST2.out.then hb3);have HRK3:=hid (Ah.mono (S':=fun q=>w.heap.size≤q∧q<w3.heap.size) (Ah.keep HRK.out fun q hq=>hb3.block q hq.2) fun q hq=>⟨hq.1,Am hq.2 hb3.size⟩);go_wp2;go_ret;exact⟨_,rfl,HRK3.out,HST3.out⟩
 ·rw[Ak hk]
  have hfb2:=hfb hk;have d1:decide (s1.k=0)=false:=Ad hk;have hSC2:Hid (∀(W:World) (h:AY W g B a s1),Calls Tryz.prog 197 #[.bool q,.func (Fn.func 180) #[.pointer (some ⟨g,0,none⟩)] #[],.int .i64 (s1.p:Int)] W fun r w'=>r=.returned (.tuple #[])∧AB W g B a s1 w'):=hid (fun W h=>by
   have:=hSC.out W h;rw[hfb2] at this;cases q
   ·rw[Ak zP] at this;exact this
   ·rw[An rfl] at this;exact this)
  clear hk hfk hfb hfb2 hSC;have hSC:=hSC2;clear hSC2;cases q;all_goals
   go_enter Tryz.func117,Tryz.ntmps117;go_wp2_with fail;refine HLS.out.mono ?_;rintro r w1 ⟨v,rfl,hr,hst⟩;obtain⟨aD,cD,hv,hr2,_⟩:=At hr;simp only[Ai,As] at hv;subst hv;have HST:=hid hst;have HR:=hid hr2;have hs1:=hst.size;have HAT:=hid (Cc w1 hst.1);have HSC:=hid (hSC.out w1 hst.1);clear hr hr2 hst;go_wp2_with fail;refine HAT.out.mono ?_;rintro r w1' ⟨rfl,rfl⟩;go_wp2_with fail;refine HSC.out.mono ?_;rintro r w2 ⟨rfl,hst2⟩;have HST2:=hid (AB.trans HST.out.2 hst2);have HRK:=hid (Ah.mono (S':=fun q=>w.heap.size≤q∧q<w2.heap.size) (Ah.keep HR.out fun q hq=>hst2.2.block q hq.2 zD) fun q hq=>⟨hq.1,Am hq.2 hst2.size⟩);have hG:=AG w2 hst2.1;rw[d1] at hG;have HG:=hid hG;clear hst2 hG d1;go_wp2_with fail;refine HG.out.mono ?_;rintro r w3 ⟨rfl,hb3⟩;have HST3:=hid (HST2.out.then hb3);go_wp2;go_ret;exact⟨_,rfl,AT rfl rfl zD,HST3.out⟩
def Jq(r:Rs × List UInt8):List UInt8 × Nat × Int × Int:=if r.1.k=0 then (r.2,r.1.p,0,0) else ([],0,r.1.k,r.1.f)
end Go.Proofs.YtlbffbkbkajciaaGreat
namespace Go.Bs
open Go.RowKit
variable{c:Nat}
def CX(c:Nat):Nat:=if c%2=1 then (c/2)^^^2197175160 else c/2
def Dp(c:Nat):Nat:=CX (CX (CX (CX c)))
def Gj(c:Nat)(x:UInt8):Nat:=Dp (Dp (c^^^x.toNat))
def DI(c:Nat)(D:List UInt8):Nat:=D.foldl Gj c
def Dj(D:List UInt8):Nat:=4294967295-DI 4294967295 D
theorem IW{a b:Nat}(ha:a<4294967296)(hb:b<4294967296):a^^^b<4294967296:=Nat.xor_lt_two_pow (n:=32) ha hb
theorem Ga(h:c<4294967296):CX c<4294967296:=by
 unfold CX;split
 ·exact IW zD zS
 ·omega
theorem KS(h:c<4294967296):Dp c<4294967296:=Ga (Ga (Ga (Ga h)))
theorem IT{x:UInt8}(h:c<4294967296):Gj c x<4294967296:=KS (KS (IW h zC4))
theorem JY:∀(D:List UInt8) {c:Nat},c<4294967296→DI c D<4294967296
 | [],c,h=>h
 | x::D,c,h=>JY D (IT h)
theorem JX(D:List UInt8):Dj D<4294967296:=by unfold Dj;omega
theorem He(a d:Nat):(a^^^2*d)%2=a%2:=by
 have h:=Nat.xor_mod_two_pow (a:=a) (b:=2*d) (n:=1);rw[Nat.pow_one,show 2*d%2=0 by omega,Nat.xor_zero] at h;exact h
theorem Gi(a d:Nat):CX (a^^^2*d)=CX a^^^d:=by
 have h1:=He a d;have h2:(a^^^2*d)/2=a/2^^^d:=by rw[Nat.xor_div_two];congr 1;omega
 unfold CX;rw[h1,h2];split
 ·rw[Nat.xor_assoc,Nat.xor_assoc,Nat.xor_comm d]
 ·rfl
theorem TP(a h:Nat):Dp (a^^^16*h)=Dp a^^^h:=by
 unfold Dp;rw[show 16*h=2*(2*(2*(2*h))) by omega,Gi,Gi,Gi,Gi]
theorem U9(h l:Nat)(hl:l<16):l^^^16*h=16*h+l:=by
 have h1:(l^^^16*h)/2=l/2^^^8*h:=by rw[Nat.xor_div_two];congr 1;omega
 have h2:(l/2^^^8*h)/2=l/4^^^4*h:=by rw[Nat.xor_div_two];congr 1<;>omega
 have h3:(l/4^^^4*h)/2=l/8^^^2*h:=by rw[Nat.xor_div_two];congr 1<;>omega
 have h4:(l/8^^^2*h)/2=h:=by
  rw[Nat.xor_div_two,show l/8/2=0 by omega,show 2*h/2=h by omega,Nat.zero_xor]
 have g1:(l^^^16*h)%2=l%2:=by rw[show 16*h=2*(8*h) by omega];exact He _ _
 have g2:(l/2^^^8*h)%2=l/2%2:=by rw[show 8*h=2*(4*h) by omega];exact He _ _
 have g3:(l/4^^^4*h)%2=l/4%2:=by rw[show 4*h=2*(2*h) by omega];exact He _ _
 have g4:(l/8^^^2*h)%2=l/8%2:=He _ _;omega
theorem Sl(c:Nat):c/16^^^Dp (c%16)=Dp c:=by
 have h:=TP (c%16) (c/16);rw[U9 _ _ zD,show 16*(c/16)+c%16=c by omega] at h;rw[h,Nat.xor_comm]
def G9(k:Nat):Array Value:=((List.range 16).map fun j=>Value.int .u32 ((if j<k then Dp j else 0:Nat):Int)).toArray
theorem CP(k j:Nat)(hj:j<16):(G9 k)[j]? =some (.int .u32 ((if j<k then Dp j else 0:Nat):Int)):=by
 simp[G9,hj]
theorem SH(k:Nat)(hk:k<16):(G9 k).setIfInBounds k (.int .u32 (Dp k:Int))=G9 (k+1):=by
 apply Array.ext_getElem?;intro j;rw[Array.getElem?_setIfInBounds];by_cases hj:j<16
 ·rw[CP _ _ hj,CP _ _ hj]
  by_cases e:k=j
  ·subst e;simp[G9,hk]
  ·rw[Ak e]
   congr 2
   by_cases h:j<k
   ·rw[An h,An zD]
   ·rw[Ak h,Ak zD]
 ·have h1:∀m,(G9 m)[j]? =none:=fun m=>by simp[G9];omega
  rw[h1,h1];split<;>simp [G9];omega
def G6:Nat→Nat→Nat
 | 0,c=>c
 | n+1,c=>CX (G6 n c)
theorem Lt(h:c<4294967296):∀n,G6 n c<4294967296
 | 0=>h
 | n+1=>Ga (Lt h n)
theorem O1(h:c<4294967296):bits BinOp.and IntKind.u32 (c:Int) 1=((c%2:Nat):Int):=by
 have:=u32_and_nat c 1 h zS;rw[nat_mask1] at this;exact this
theorem MV(h:c<4294967296):bits BinOp.and IntKind.u32 (c:Int) 15=((c%16:Nat):Int):=by
 have:=u32_and_nat c 15 h zS;rw[nat_mask4] at this;exact this
theorem Of(h:c<4294967296):bits BinOp.xor IntKind.u32 ((c:Int)/2) 2197175160=((c/2^^^2197175160:Nat):Int):=by
 have:=u32_xor_nat (c/2) 2197175160 zD zS;rw[←this];rfl
theorem Uo(h:c<4294967296):bits BinOp.xor IntKind.u32 IntKind.u32.max (c:Int)=((4294967295-c:Nat):Int):=by
 have e:IntKind.u32.max=((4294967295:Nat):Int):=rfl;rw[e,u32_xor_nat _ _ zS h];have h1:4294967295^^^c=4294967295-c:=by
  have h2:=BitVec.toNat_not (x:=BitVec.ofNat 32 c);rw[BitVec.not_def,BitVec.toNat_xor,BitVec.toNat_allOnes,BitVec.toNat_ofNat,Dq zD] at h2;exact h2
 rw[h1]
end Go.Bs
namespace Go.Proofs.YtlbffbkbkajciaaGreat
open Go.RowKit Go.Bs Go.Maps
variable{bound:Int}{B b out:List UInt8}{L c g i lo o p:Nat}{a a1:Option Addr}{s:Rs}{v:Value}{w:World}
theorem TO(c:Nat)(hc:c<4294967296)(w:World):
  Calls Tryz.prog 271 #[.int .u32 c] w fun r w'=>r=.returned (.int .u32 (CX c))∧w=w':=by
 by_cases h:c%2=1
 ·have d1:(bits BinOp.and IntKind.u32 (c:Int) 1==1)=true:=by rw[O1 hc];simp;omega
  have hff:Hid ((CX c:Int)=bits BinOp.xor IntKind.u32 ((c:Int)/2) 2197175160):=hid (by rw[Of hc];unfold CX;rw[An h]);clear h;go_enter Tryz.func271,Tryz.ntmps271;go_wp2;go_ret;exact⟨zQ,rfl⟩
 ·have d1:(bits BinOp.and IntKind.u32 (c:Int) 1==1)=false:=by rw[O1 hc];simp;omega
  have hff:Hid ((CX c:Int)=(c:Int)/2):=hid (by unfold CX;rw[Ak h];rfl);clear h;go_enter Tryz.func271,Tryz.ntmps271;go_wp2;go_ret;exact⟨zQ,rfl⟩
theorem Sk(w:World):Calls Tryz.prog 230 #[] w fun r w'=>r=.returned (.int .u32 4294967295)∧w=w':=by
 go_enter Tryz.func230,Tryz.ntmps230;go_wp2;go_ret;exact⟨rfl,rfl⟩
theorem Uw(c:Nat)(hc:c<4294967296)(w:World):
  Calls Tryz.prog 228 #[.int .u32 c] w fun r w'=>r=.returned (.int .u32 ((4294967295-c:Nat):Int))∧w=w':=by
 have hff:=hid (Uo hc);go_enter Tryz.func228,Tryz.ntmps228;go_wp2;go_ret;exact⟨by rw[←hff.out];rfl,rfl⟩
theorem ND{wo:World}{B:Nat}(h:Below B w wo)(hg:B≤g)(v0 v1 v2 v3 v4 v5 v6 v7 v8 v9 v10 v11 v12 v13 v14 v15:Value):Below B w (((((((((((((((((wo).setCell ⟨g,0,none⟩ v0).setCell ⟨g,1,none⟩ v1).setCell ⟨g,2,none⟩ v2).setCell ⟨g,3,none⟩ v3).setCell ⟨g,4,none⟩ v4).setCell ⟨g,5,none⟩ v5).setCell ⟨g,6,none⟩ v6).setCell ⟨g,7,none⟩ v7).setCell ⟨g,8,none⟩ v8).setCell ⟨g,9,none⟩ v9).setCell ⟨g,10,none⟩ v10).setCell ⟨g,11,none⟩ v11).setCell ⟨g,12,none⟩ v12).setCell ⟨g,13,none⟩ v13).setCell ⟨g,14,none⟩ v14).setCell ⟨g,15,none⟩ v15):=
 ((((((((((((((((h).setCell (p:=⟨g,0,none⟩) hg v0).setCell (p:=⟨g,1,none⟩) hg v1).setCell (p:=⟨g,2,none⟩) hg v2).setCell (p:=⟨g,3,none⟩) hg v3).setCell (p:=⟨g,4,none⟩) hg v4).setCell (p:=⟨g,5,none⟩) hg v5).setCell (p:=⟨g,6,none⟩) hg v6).setCell (p:=⟨g,7,none⟩) hg v7).setCell (p:=⟨g,8,none⟩) hg v8).setCell (p:=⟨g,9,none⟩) hg v9).setCell (p:=⟨g,10,none⟩) hg v10).setCell (p:=⟨g,11,none⟩) hg v11).setCell (p:=⟨g,12,none⟩) hg v12).setCell (p:=⟨g,13,none⟩) hg v13).setCell (p:=⟨g,14,none⟩) hg v14).setCell (p:=⟨g,15,none⟩) hg v15
theorem SI:G9 16=#[.int .u32 (Dp 0:Nat),.int .u32 (Dp 1:Nat),.int .u32 (Dp 2:Nat),.int .u32 (Dp 3:Nat),.int .u32 (Dp 4:Nat),.int .u32 (Dp 5:Nat),.int .u32 (Dp 6:Nat),.int .u32 (Dp 7:Nat),.int .u32 (Dp 8:Nat),.int .u32 (Dp 9:Nat),.int .u32 (Dp 10:Nat),.int .u32 (Dp 11:Nat),.int .u32 (Dp 12:Nat),.int .u32 (Dp 13:Nat),.int .u32 (Dp 14:Nat),.int .u32 (Dp 15:Nat)]:=rfl
theorem Sj(w:World):
  Calls Tryz.prog 254 #[] w fun r w'=>r=.returned (.agg (G9 16))∧Below w.heap.size w w':=by
 go_enter Tryz.func254,Tryz.ntmps254;go_wp2_with fail;refine Cm (fun W=>Below w.heap.size w W∧W.heap.size=w.heap.size+2∧Blk W w.heap.size 240 (G9 0)∧Blk W (w.heap.size+1) 240 (G9 0)) ⟨zC,zP,(Blk.new w _ _).alloc _,Blk.Vh w _ _ _⟩ ?_;intro W ⟨hbW,hzW,q0,q1⟩;have Q0:=hid q0;have Q1:=hid q1;have HZ:=hid hzW;clear q0 q1 hzW;go_loopw [4] (fun i wr=>∃k:Nat,k≤16∧i=.int .i64 k∧Tch (·=w.heap.size+1) W wr∧Blk wr (w.heap.size+1) 240 (G9 k)) (fun i _=>16-(intOf i).toNat)
 case atStart=>exact ⟨0,zD,rfl,Tch.refl _ _,Q1.out⟩
 case round=>
  obtain⟨k,hk,rfl,ht,hB⟩:=hrel;obtain⟨wo,hwo⟩:∃wo:World,wo=wr:=⟨_,rfl⟩;subst hwo;have HT:=hid ht;have HB:=hid hB;clear ht hB;by_cases hlt:k<16
  ·have i1:(k:Int)<16:=by omega
   have e1:(k:Int)%4294967296=k:=zD;go_wp2_with fail;go_loopw [3,9] (fun c j w'=>∃n:Nat,n≤4∧j=.int .i64 n∧c=.int .u32 (G6 n k:Nat)∧w'=wo) (fun _ j _=>4-(intOf j).toNat)
   case atStart=>exact ⟨0,zD,rfl,by simp[G6,e1],rfl⟩
   case round=>
    obtain⟨n,hn,rfl,rfl,rfl⟩:=hrel;by_cases hl4:n<4
    ·have i2:(n:Int)<4:=by omega
     have HS:=hid (TO (G6 n k) (Lt zD n) wr);go_wp2_with fail;refine HS.out.mono ?_;rintro r w1 ⟨rfl,rfl⟩;go_wp2;go_roundw
     case rel=>exact ⟨n+1,zD,zZ,rfl,trivial⟩
     case measure=>simp [intOf];omega
    ·obtain rfl:n=4:=by omega
     have hB2:Blk (wr.setCell ⟨w.heap.size+1,k,none⟩ (.int .u32 (G6 4 k:Nat))) (w.heap.size+1) 240 (G9 (k+1)):=by
      rw[←SH k hlt];exact HB.out.set k _
     have c9:wr.cell? ⟨w.heap.size+1,k,none⟩=some (.int .u32 ((if k<k then Dp k else 0:Nat):Int)):=(HB.out.cell k).trans (CP k k hlt);have f9:=HB.out.free k;have HB2:=hid hB2;have HT2:=hid (HT.out.setCell (p:=⟨w.heap.size+1,k,none⟩) (fun _=>rfl) (.int .u32 (G6 4 k:Nat)));clear hB2;go_wp2;go_roundw
     case rel=>exact ⟨k+1,zD,zZ,HT2.out,HB2.out⟩
     case measure=>simp [intOf];omega
  ·obtain rfl:k=16:=by omega
   obtain⟨v0,v1,v2,v3,v4,v5,v6,v7,v8,v9,v10,v11,v12,v13,v14,v15,hv⟩:∃v0 v1 v2 v3 v4 v5 v6 v7 v8 v9 v10 v11 v12 v13 v14 v15:Nat,G9 16=VN:=⟨_,_,_,_,_,_,_,_,_,_,_,_,_,_,_,_,SI⟩;have hB9:=HB.out;rw[hv] at hB9;have HV:=hid hv;have hB0:Blk wo w.heap.size 240 (G9 0):=Q0.out.tch HT.out zP;have y0:wo.cell? ⟨w.heap.size+1,0,none⟩=some (.int .u32 (v0:Int)):=hB9.cell 0;have z0:wo.cell? ⟨w.heap.size,0,none⟩=some (.int .u32 0):=(hB0.cell 0).trans (CP 0 0 zS);have f0:=hB0.free 0;have y1:wo.cell? ⟨w.heap.size+1,1,none⟩=some (.int .u32 (v1:Int)):=hB9.cell 1;have z1:wo.cell? ⟨w.heap.size,1,none⟩=some (.int .u32 0):=(hB0.cell 1).trans (CP 0 1 zS);have f1:=hB0.free 1;have y2:wo.cell? ⟨w.heap.size+1,2,none⟩=some (.int .u32 (v2:Int)):=hB9.cell 2;have z2:wo.cell? ⟨w.heap.size,2,none⟩=some (.int .u32 0):=(hB0.cell 2).trans (CP 0 2 zS);have f2:=hB0.free 2;have y3:wo.cell? ⟨w.heap.size+1,3,none⟩=some (.int .u32 (v3:Int)):=hB9.cell 3;have z3:wo.cell? ⟨w.heap.size,3,none⟩=some (.int .u32 0):=(hB0.cell 3).trans (CP 0 3 zS);have f3:=hB0.free 3;have y4:wo.cell? ⟨w.heap.size+1,4,none⟩=some (.int .u32 (v4:Int)):=hB9.cell 4;have z4:wo.cell? ⟨w.heap.size,4,none⟩=some (.int .u32 0):=(hB0.cell 4).trans (CP 0 4 zS);have f4:=hB0.free 4;have y5:wo.cell? ⟨w.heap.size+1,5,none⟩=some (.int .u32 (v5:Int)):=hB9.cell 5;have z5:wo.cell? ⟨w.heap.size,5,none⟩=some (.int .u32 0):=(hB0.cell 5).trans (CP 0 5 zS);have f5:=hB0.free 5;have y6:wo.cell? ⟨w.heap.size+1,6,none⟩=some (.int .u32 (v6:Int)):=hB9.cell 6;have z6:wo.cell? ⟨w.heap.size,6,none⟩=some (.int .u32 0):=(hB0.cell 6).trans (CP 0 6 zS);have f6:=hB0.free 6;have y7:wo.cell? ⟨w.heap.size+1,7,none⟩=some (.int .u32 (v7:Int)):=hB9.cell 7;have z7:wo.cell? ⟨w.heap.size,7,none⟩=some (.int .u32 0):=(hB0.cell 7).trans (CP 0 7 zS);have f7:=hB0.free 7;have y8:wo.cell? ⟨w.heap.size+1,8,none⟩=some (.int .u32 (v8:Int)):=hB9.cell 8;have z8:wo.cell? ⟨w.heap.size,8,none⟩=some (.int .u32 0):=(hB0.cell 8).trans (CP 0 8 zS);have f8:=hB0.free 8;have y9:wo.cell? ⟨w.heap.size+1,9,none⟩=some (.int .u32 (v9:Int)):=hB9.cell 9;have z9:wo.cell? ⟨w.heap.size,9,none⟩=some (.int .u32 0):=(hB0.cell 9).trans (CP 0 9 zS);have f9:=hB0.free 9;have y10:wo.cell? ⟨w.heap.size+1,10,none⟩=some (.int .u32 (v10:Int)):=hB9.cell 10;have z10:wo.cell? ⟨w.heap.size,10,none⟩=some (.int .u32 0):=(hB0.cell 10).trans (CP 0 10 zS);have f10:=hB0.free 10;have y11:wo.cell? ⟨w.heap.size+1,11,none⟩=some (.int .u32 (v11:Int)):=hB9.cell 11;have z11:wo.cell? ⟨w.heap.size,11,none⟩=some (.int .u32 0):=(hB0.cell 11).trans (CP 0 11 zS);have f11:=hB0.free 11;have y12:wo.cell? ⟨w.heap.size+1,12,none⟩=some (.int .u32 (v12:Int)):=hB9.cell 12;have z12:wo.cell? ⟨w.heap.size,12,none⟩=some (.int .u32 0):=(hB0.cell 12).trans (CP 0 12 zS);have f12:=hB0.free 12;have y13:wo.cell? ⟨w.heap.size+1,13,none⟩=some (.int .u32 (v13:Int)):=hB9.cell 13;have z13:wo.cell? ⟨w.heap.size,13,none⟩=some (.int .u32 0):=(hB0.cell 13).trans (CP 0 13 zS);have f13:=hB0.free 13;have y14:wo.cell? ⟨w.heap.size+1,14,none⟩=some (.int .u32 (v14:Int)):=hB9.cell 14;have z14:wo.cell? ⟨w.heap.size,14,none⟩=some (.int .u32 0):=(hB0.cell 14).trans (CP 0 14 zS);have f14:=hB0.free 14;have y15:wo.cell? ⟨w.heap.size+1,15,none⟩=some (.int .u32 (v15:Int)):=hB9.cell 15;have z15:wo.cell? ⟨w.heap.size,15,none⟩=some (.int .u32 0):=(hB0.cell 15).trans (CP 0 15 zS);have f15:=hB0.free 15;clear hB9 hv HB;clear hB0;go_wp2;refine Af (v:=.agg VN) (by simp[results,Tryz.results254,go_sem,z0,z1,z2,z3,z4,z5,z6,z7,z8,z9,z10,z11,z12,z13,z14,z15]) rfl ⟨by rw[HV.out],?_⟩;have hb2:Below w.heap.size W wo:=HT.out.Ba (by have:=HZ.out;omega) (by intro b _ e;omega);have hb3:=hbW.trans hb2;exact ND hb3 (Aj _) (.int .u32 (v0:Int)) (.int .u32 (v1:Int)) (.int .u32 (v2:Int)) (.int .u32 (v3:Int)) (.int .u32 (v4:Int)) (.int .u32 (v5:Int)) (.int .u32 (v6:Int)) (.int .u32 (v7:Int)) (.int .u32 (v8:Int)) (.int .u32 (v9:Int)) (.int .u32 (v10:Int)) (.int .u32 (v11:Int)) (.int .u32 (v12:Int)) (.int .u32 (v13:Int)) (.int .u32 (v14:Int)) (.int .u32 (v15:Int))
end Go.Proofs.YtlbffbkbkajciaaGreat
