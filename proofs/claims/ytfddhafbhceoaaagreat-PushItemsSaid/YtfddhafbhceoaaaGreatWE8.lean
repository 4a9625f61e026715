/- Mini: Needed by pushItems_walk, part 8: texts put together by shake.py; no condition. -/
import Derived.Test.YtfddhafbhceoaaaGreatWE3
import Derived.Laws.Bits64
import Derived.Test.YtfddhafbhceoaaaGreatWE7
import Derived.Test.YtfddhafbhceoaaaGreatWE6
import Derived.Deep.AppendLies
import Derived.Deep.RegionLaw
import Derived.Test.YtfddhafbhceoaaaGreatWE2
import Derived.Test.YtfddhafbhceoaaaGreatWE1
import Derived.Test.YtfddhafbhceoaaaGreatWE4
import Derived.Test.YtfddhafbhceoaaaGreatWE5
import Derived.Deep.RegionHeld3
set_option linter.unusedVariables false
set_option linter.unusedSimpArgs false
set_option maxRecDepth 100000
set_option maxHeartbeats 6400000
namespace Go.Bs
variable{c i n:Nat}{a:Option Addr}{v:Value}
theorem zCx{p:Prop}(h:p:=by rw [hst, hJ.out]; simp only [Ao]):p:=h
theorem zB3{p:Prop}(h:p:=by have := hJ.out; rwa [CF (by omega)] at this):p:=h
theorem Ay:type_of% @List.getElem_cons_zero:=@List.getElem_cons_zero
theorem AA:type_of% @List.getElem_toArray:=@List.getElem_toArray
theorem CJ:type_of% @wp_region_held_drew:=@wp_region_held_drew
end Go.Bs
namespace Go.Proofs.YtfddhafbhceoaaaGreat
open Go.RowKit Go.Bs Go.Maps
variable{h:Bool}{B:List UInt8}{xs:List Value}{base c g lo n sz:Nat}{S:Nat → Prop}{a:Option Addr}{s:Rs}{e t:TypeId}{u v:Value}{W W' w:World}
theorem Ba.Xj{w w':World}{α:Type}{lo g:Nat}{A:Rp α}{e:TypeId}{sz:Nat}{v:Value}{xs:List α}(h:Ba lo A lo e sz w v xs)(hb:Tch (fun b=>b=g∨w.heap.size≤b) w w')(hg:g<lo):Ba lo A lo e sz w' v xs:=by
 have hk:∀b,lo≤b→b<w.heap.size→w'.heap[b]? =w.heap[b]? :=fun b h1 h2=>hb.block b h2 zD;obtain⟨cells,ho,hlen,hsz,hA⟩:=h;refine⟨cells,⟨ho.1,?_⟩,hlen,hsz,fun i cs x hi hx=>A.mono (A.keep (hA i cs x hi hx) fun b h=>hk b h.1 h.2.1) fun b h=>⟨h.1,Aj h.2.1 hb.size,h.2.2⟩⟩;rcases ho.2 with h0 | ⟨g',cap,cur,h1,h2,h3,h4⟩
 ·exact .inl h0
 ·exact .inr ⟨g',cap,cur,h1,h2,(hk _ h2 (Blk.lt h3)).trans h3,h4⟩
theorem Ba.form{α:Type}{A:Rp α}{xs:List α}(h:Ba lo A base e sz w v xs):∃a c,v=.slice a xs.length c:=by
 obtain⟨cells,h1,_⟩:=h;exact AD h1
theorem AaC{z:Int}(h:0≤z∧z≤18446744073709551615):bits BinOp.xor IntKind.u64 IntKind.u64.max z=18446744073709551615-z:=by
 obtain⟨a,rfl⟩:=EN h.1;have ha:a<18446744073709551616:=zD;have e:IntKind.u64.max=((18446744073709551615:Nat):Int):=rfl;rw[e,bits_xor_u64_nat _ _ zO ha];have h1:18446744073709551615^^^a=18446744073709551615-a:=by
  have h2:=BitVec.toNat_not (x:=BitVec.ofNat 64 a);rw[BitVec.not_def,BitVec.toNat_xor,BitVec.toNat_allOnes,BitVec.toNat_ofNat,Eu zD] at h2;exact h2
 rw[h1];omega
theorem Wn(w:World)(h:A6 w g B a s)(hB:B.length≤1000000000)(pos:Int)(hpos:0≤pos∧pos≤18446744073709551615):
  Calls Tryz.prog 315 #[.pointer (some ⟨g,0,none⟩),.int .u64 pos] w fun r w'=>∃v,r=.returned v∧QG.r (FZ w w') w' [v] (s.links B pos).2∧AG w g B a (s.links B pos).1 w':=by
 obtain⟨i0,hi,hz0,hz1,hz2⟩:=A3 Yz;have HI:=hid (Ef w h zD 16 zD);have hNm:=Rs.JH (B:=B) (s:=s) (m:=16);have hlt:=h.blk.lt;have HIN:=hid (DC.refl h);unfold Rs.links;generalize s.int B 16=I at*;obtain⟨s1,N⟩:=I;dsimp only at*;have hN:N≤16:=zD;clear h;go_enter Tryz.func315,Tryz.ntmps315;go_wp2_with fail;refine HI.out.mono ?_;rintro r w1 ⟨rfl,hst⟩;have HIN1:=hid (HIN.out.step hst);clear hst;go_wp2_with fail;go_loopw [5,12] (fun v i wr=>∃(k:Nat) (J:List BH) (st:Rs),k≤N∧i=.int .i64 k∧Hid (J.length=k)∧Ba w.heap.size ME w.heap.size 215 2 wr v J∧Hid (∀x∈J,0≤x.stream∧x.stream≤18446744073709551615)∧Hid (DC w wr g B a st)∧Hid (Rs.DS B pos N s1 none []=Rs.DS B pos (N-k) st (J.getLast?.map BH.stream) J)) (fun _ i _=>N-(intOf i).toNat)
 case atStart=>exact ⟨0,[],s1,Am _,rfl,hid rfl,Ba.nil,hid zN,HIN1,hid rfl⟩
 case round=>
  obtain⟨k,J,st,hk,rfl,hJl,hown,hJb,hin,hsp⟩:=hrel;obtain⟨av,cv,rfl⟩:=Ba.form hown;rcases Bh k N with hlt2 | hge
  ·have HAT:=hid (Cv wr hin.out.rd)
   have HVR:=hid (Da wr hin.out.rd zD);have hx:=Rs.DL (B:=B) (s:=st);have hsz0:=hin.out.tch.size;have i1:(k:Int)<(N:Int):=zD;have d1:decide ((k:Int)<(N:Int))=true:=Ad i1;have d1':decide (k<N)=true:=Ad hlt2;have HO:=hid hown;clear hown;have hJ16:J.length≤16:=by have:=hJl.out;omega
   by_cases hJe:J=[]
   ·have hstep:Rs.DS B pos (N-k) st (J.getLast?.map BH.stream) J=(if ((st.num B).1.delta B pos 4).1.k=0 then Rs.DS B pos (N-(k+1)) ((st.num B).1.delta B pos 4).1 (some ((st.num B).2:Int)) (J++[⟨((st.num B).2:Int),((st.num B).1.delta B pos 4).2⟩]) else (((st.num B).1.delta B pos 4).1,[])):=by
     rw[show N-k=(N-(k+1))+1 by omega,hJe];rfl
    have hk0:k=0:=by have:=hJl.out;rw[hJe] at this;simpa using this.symm
    subst hk0;clear hJe;generalize st.num B=R at*;obtain⟨st1,x⟩:=R;dsimp only at*;have hxb:(0:Int)≤(x:Int)∧(x:Int)≤18446744073709551615:=zD;have HD:=hid (fun (W:World) (hW:A6 W g B a st1)=>KK W hW hB pos hpos 4 zD);generalize st1.delta B pos 4=D at*;obtain⟨s6,bk⟩:=D;dsimp only at*;go_wp2_with fail;refine HAT.out.mono ?_;rintro r w2 ⟨rfl,rfl⟩;go_wp2_with fail;refine HVR.out.mono ?_;rintro r w3 ⟨rfl,hst3⟩;have HIN3:=hid (hin.out.step hst3);have HO3:=hid (Ba.Xj HO.out (hst3.2.mono fun b hb e=> .inl e) hlt);have hsz3:=HIN3.out.tch.size;clear hst3;go_wp2_with fail;refine (HD.out _ (HIN3.out.row ((by (repeat (first | with_reducible exact Below.refl _ _ | with_reducible assumption | (with_reducible refine AH ?_ _) | (with_reducible refine Below.setCell ?_ zF _) | (with_reducible refine Below.drew ?_) | (with_reducible refine below_drewN ?_ _) | (refine Af zG ?_))):Below w3.heap.size w3 _).mono hsz3)).rd).mono ?_;rintro r w6 ⟨v6,rfl,hv6,hst6⟩;obtain⟨a6,c6,hfv,_,_⟩:=AN hv6;simp only[As,AM] at hfv;subst hfv;have BK6:Blk w6 w3.heap.size 215 #[.int .u64 (x:Int),.slice none 0 0]:=Blk.tch zC hst6.2 zD;have HIN6:=hid ((HIN3.out.row ((by (repeat (first | with_reducible exact Below.refl _ _ | with_reducible assumption | (with_reducible refine AH ?_ _) | (with_reducible refine Below.setCell ?_ zF _) | (with_reducible refine Below.drew ?_) | (with_reducible refine below_drewN ?_ _) | (refine Af zG ?_))):Below w3.heap.size w3 _).mono hsz3)).step hst6);have HK6:Hid (Tch (fun b=>b=g∨w3.heap.size≤b) w3 w6):=hid ((Tch.JB (by (repeat (first | with_reducible exact Below.refl _ _ | with_reducible assumption | (with_reducible refine AH ?_ _) | (with_reducible refine Below.setCell ?_ zF _) | (with_reducible refine Below.drew ?_) | (with_reducible refine below_drewN ?_ _) | (refine Af zG ?_))):Below w3.heap.size w3 _)).mono (fun b hb e=> .inr e) |>.trans hst6.2 (fun b hb e=> .inl e));by_cases hk6:s6.k=0
    ·rw[Ai hk6] at hstep
     have HSP:=hid (hsp.out.trans hstep);have HG:=hid (fun (W:World) (hW:A6 W g B a s6)=>(by have:=AL W hW;rw[Ad hk6] at this;exact this:Calls Tryz.prog 112 #[.pointer (some ⟨g,0,none⟩)] W fun r w'=>r=.returned (.bool true)∧Below W.heap.size W w'));obtain⟨y0,y1,f0,f1,hl6⟩:=B6 BK6;have HV6:=hid hv6;have hq6:=hst6.2.size;simp at hq6;clear hsp hstep hk6 hv6 hst6;go_wp2_with fail;refine (HG.out _ (HIN6.out.row ((by (repeat (first | with_reducible exact Below.refl _ _ | with_reducible assumption | (with_reducible refine AH ?_ _) | (with_reducible refine Below.setCell ?_ zF _) | (with_reducible refine Below.drew ?_) | (with_reducible refine below_drewN ?_ _) | (refine Af zG ?_))):Below w3.heap.size w6 _).mono hsz3)).rd).mono ?_;rintro r w7 ⟨rfl,hb7⟩;have B7:Blk w7 w3.heap.size 215 #[.int .u64 (x:Int),.slice a6 bk.length c6]:=Blk.later (BK6.set 1 _) hb7;obtain⟨z0,z1,_,_,hl7⟩:=B6 B7;have hb67:Below w3.heap.size w6 w7:=(by (repeat (first | with_reducible exact Below.refl _ _ | with_reducible assumption | (with_reducible refine AH ?_ _) | (with_reducible refine Below.setCell ?_ zF _) | (with_reducible refine Below.drew ?_) | (with_reducible refine below_drewN ?_ _) | (refine Af zG ?_))):Below w3.heap.size w6 (w6.setCell ⟨w3.heap.size,1,none⟩ (.slice a6 bk.length c6))).trans (hb7.mono zH);have HIN7:=hid (HIN6.out.row (hb67.mono hsz3));have hsz7:=HIN7.out.tch.size;have hk7:Tch (fun b=>b=g∨w3.heap.size≤b) w3 w7:=HK6.out.trans (Tch.JB hb67) (fun b hb hle=> .inr hle);have O7:=Ba.Xj HO3.out hk7 hlt;obtain⟨cells0,OA0⟩:=HO3.out;have hlt0:∀g',(Value.slice av J.length cv).ownBlock=some g'→g'<w3.heap.size:=fun g' e=>(OA0.1.lt g' e).2;obtain⟨cells,OA⟩:=Ba.below O7 (show Below w7.heap.size w7 (w7.alloc (.cells #[.int .u64 (x:Int),.slice a6 bk.length c6] 215)) from zA);have hk8:∀b,w3.heap.size+1≤b→b<w6.heap.size→(w7.alloc (.cells #[.int .u64 (x:Int),.slice a6 bk.length c6] 215)).heap[b]? =w6.heap[b]? :=fun b h1 h2=>(Bx w7 _ b (by have:=hb67.size;omega)).trans ((hb7.block b (by simpa using h2)).trans (AB _ _ _ _ zJ));have hv8:=Bb.keep (w':=(w7.alloc (.cells #[.int .u64 (x:Int),.slice a6 bk.length c6] 215))) HV6.out (fun b (hb:(w3.alloc (.cells #[.int .u64 (x:Int),.slice none 0 0] 215)).heap.size≤b∧b<w6.heap.size)=>hk8 b (by have:=hb.1;simp at this;omega) hb.2);have hx8:ME.r (fun b=>w.heap.size≤b∧b<(w7.alloc (.cells #[.int .u64 (x:Int),.slice a6 bk.length c6] 215)).heap.size∧(Value.slice av J.length cv).ownBlock≠some b) (w7.alloc (.cells #[.int .u64 (x:Int),.slice a6 bk.length c6] 215)) [.int .u64 (x:Int),.slice a6 bk.length c6] ⟨(x:Int),bk⟩:=by
      refine Vn (x:=⟨(x:Int),bk⟩) hxb (Bb.mono hv8 fun b hb=> ?_);have h1:=hb.1;have h2:=hb.2;have h3:=hb67.size;simp at h1;refine⟨zD,zH,fun e=> ?_⟩;have:=hlt0 b e;omega
     have HX:=hid hx8;have HA:=hid OA;have HS9:Hid (w.heap.size≤(w7.alloc (.cells #[.int .u64 (x:Int),.slice a6 bk.length c6] 215)).heap.size):=hid zH;clear hx8 hv8 OA OA0 hlt0 hk8 O7 hk7 hb67 hb7 B7 y0 y1 f0 f1 HV6;go_wp2_with (at_builtin;go_loud (refine Ar rfl _ _ _ rfl w.heap.size 215 i0 (.agg #[.int .u64 0,.slice none 0 0]) 2 32 Tryz.underlying38 hi hz0 hz1 hz2 rfl zO (.slice av J.length cv) J.length _ rfl HA.out.1 (some ⟨w7.heap.size,0,none⟩) 1 1 [.int .u64 (x:Int),.slice a6 bk.length c6] rfl (By w7 215 _ rfl rfl rfl) (by intro u hu;simp at hu;rcases hu with rfl | rfl<;>rfl) zK zD HS9.out ?_;intro v1 w9 hown1 hgrow1 hat1;have OP:=hid (Ba.push HA.out rfl HX.out hown1 hgrow1 hat1 hgrow1.size);have hb9:Below w.heap.size w7 w9:=(Below.grown ((by (repeat (first | with_reducible exact Below.refl _ _ | with_reducible assumption | (with_reducible refine AH ?_ _) | (with_reducible refine Below.setCell ?_ zF _) | (with_reducible refine Below.drew ?_) | (with_reducible refine below_drewN ?_ _) | (refine Af zG ?_))):Below w7.heap.size w7 _).mono hsz7) hgrow1 HS9.out (fun g e=>(HA.out.1.lt g e).1));clear hown1 hgrow1 hat1))
     have HIN9:=hid (HIN7.out.row hb9);have HJ9:Hid (∀y∈J++[(⟨(x:Int),bk⟩:BH)],0≤y.stream∧y.stream≤18446744073709551615):=hid (fun y hy=>by
      rw[EO,De] at hy;rcases hy with hy | rfl
      ·exact hJb.out y hy
      ·exact hxb)
     go_roundw
     case rel=>exact ⟨0+1,J++[⟨(x:Int),bk⟩],s6,zD,zV,hid (by rw[Ag,hJl.out];rfl),OP.out,HJ9,HIN9,hid (by rw[HSP.out];simp)⟩
     case measure=>simp [intOf];omega
    ·rw[Ak hk6] at hstep
     have HSP:=hid (hsp.out.trans hstep);have HG:=hid (fun (W:World) (hW:A6 W g B a s6)=>(by have:=AL W hW;rw[Ae hk6] at this;exact this:Calls Tryz.prog 112 #[.pointer (some ⟨g,0,none⟩)] W fun r w'=>r=.returned (.bool false)∧Below W.heap.size W w'));obtain⟨y0,y1,f0,f1,hl6⟩:=B6 BK6;clear hsp hstep hk6 hv6;go_wp2_with fail;refine (HG.out _ (HIN6.out.row ((by (repeat (first | with_reducible exact Below.refl _ _ | with_reducible assumption | (with_reducible refine AH ?_ _) | (with_reducible refine Below.setCell ?_ zF _) | (with_reducible refine Below.drew ?_) | (with_reducible refine below_drewN ?_ _) | (refine Af zG ?_))):Below w3.heap.size w6 _).mono hsz3)).rd).mono ?_;rintro r w7 ⟨rfl,hb7⟩;have hb67:Below w3.heap.size w6 w7:=(by (repeat (first | with_reducible exact Below.refl _ _ | with_reducible assumption | (with_reducible refine AH ?_ _) | (with_reducible refine Below.setCell ?_ zF _) | (with_reducible refine Below.drew ?_) | (with_reducible refine below_drewN ?_ _) | (refine Af zG ?_))):Below w3.heap.size w6 (w6.setCell ⟨w3.heap.size,1,none⟩ (.slice a6 bk.length c6))).trans (hb7.mono zH);have HE:=hid (HIN6.out.row (hb67.mono hsz3)).to;clear hb7;go_wp2;go_ret;rw[HSP.out];exact⟨.slice none 0 0,rfl,Ba.NG (e:=0) (An _) Ba.nil,HE.out⟩
   ·obtain⟨m,rfl⟩:∃m,k=m+1:=⟨k-1,by
     have:=hJl.out;have:J.length≠0:=fun e=>hJe (A2 e);omega⟩
    have hmJ:m<J.length:=by have:=hJl.out;omega
    have hlast:J.getLast?.map BH.stream=some J[m].stream:=by
     have:=hJl.out;rw[List.getLast?_eq_getElem?,this,Ft,AJ hmJ];rfl
    have hzb:=hJb.out J[m] (Bi hmJ);obtain⟨bq,o,hA,hbb,a1,c1,hc0,hc1,hst,hd⟩:=EK (Ba.slice (An _) HO.out) hmJ;subst hA;have hbg:bq≠g:=by have:=hbb.1;omega
    have hbr:bq<wr.heap.size:=hbb.2;have hstep:Rs.DS B pos (N-(m+1)) st (J.getLast?.map BH.stream) J=(if ((st.stream B (some J[m].stream)).1.delta B pos 4).1.k=0 then Rs.DS B pos (N-(m+1+1)) ((st.stream B (some J[m].stream)).1.delta B pos 4).1 (some (st.stream B (some J[m].stream)).2) (J++[⟨(st.stream B (some J[m].stream)).2,((st.stream B (some J[m].stream)).1.delta B pos 4).2⟩]) else (((st.stream B (some J[m].stream)).1.delta B pos 4).1,[])):=by
     rw[hlast,show N-(m+1)=(N-(m+1+1))+1 by omega];rfl
    clear hlast hd hc1 hbb;generalize J[m]=z at*;have i1':(m:Int)+1<(N:Int):=zD;have i2:(m:Int)<(J.length:Int):=zD;have d2:decide ((m:Int)+1<(N:Int))=true:=Ad i1';have e1:=AaC hzb;have hsg:IntKind.u64.signed=false:=rfl;by_cases hf:18446744073709551615-z.stream≤((st.num B).2:Int)
    ·have hS:(st.stream B (some z.stream)).1=(st.num B).1.fail 13 st.p:=by
      simp only[Rs.stream];rw[Ai hf]
     have hbad:((st.stream B (some z.stream)).1.delta B pos 4).1.k≠0:=fun e=>(Rs.BE (s:=(st.num B).1) (c:=13) (at_:=(st.p:Int)) zD) (by rw[←hS];exact (Rs.MS (Rs.IA hin.out.rd.ok) hpos.2 e).2.2.2.2);rw[Ak hbad,hS] at hstep;rw[hS] at hbad;clear hS;generalize st.num B=R at*;obtain⟨st1,x⟩:=R;dsimp only at*;have d4:decide (bits BinOp.xor IntKind.u64 IntKind.u64.max z.stream≤(x:Int))=true:=by rw[e1];exact Ad hf
     clear hf e1;have HD:=hid (fun (W:World) (hW:A6 W g B a (st1.fail 13 (st.p:Int)))=>KK W hW hB pos hpos 4 zD);generalize (st1.fail 13 (st.p:Int)).delta B pos 4=D at*;obtain⟨s6,bk⟩:=D;dsimp only at*;go_wp2_with fail;refine HAT.out.mono ?_;rintro r w2 ⟨rfl,rfl⟩;go_wp2_with fail;refine HVR.out.mono ?_;rintro r w3 ⟨rfl,hst3⟩;have HIN3:=hid (hin.out.step hst3);have HO3:=hid (Ba.Xj HO.out (hst3.2.mono fun b hb e=> .inl e) hlt);have hsz3:=HIN3.out.tch.size;have X0:=(hst3.2.cell (p:=⟨bq,o+m*2,none⟩) hbr hbg).trans hc0;have hb3:bq<w3.heap.size:=Aj hbr hst3.2.size;clear hst3 hc0;go_wp2_with fail;refine (BP _ (HIN3.out.row ((by (repeat (first | with_reducible exact Below.refl _ _ | with_reducible assumption | (with_reducible refine AH ?_ _) | (with_reducible refine Below.setCell ?_ zF _) | (with_reducible refine Below.drew ?_) | (with_reducible refine below_drewN ?_ _) | (refine Af zG ?_))):Below w3.heap.size w3 _).mono hsz3)).rd 13 (st.p:Int) zD).mono ?_;rintro r w4 ⟨rfl,hst4⟩;have B4:Blk w4 w3.heap.size 215 #[.int .u64 (x:Int),.slice none 0 0]:=Blk.tch zC hst4.2 zD;have HIN4:=hid ((HIN3.out.row ((by (repeat (first | with_reducible exact Below.refl _ _ | with_reducible assumption | (with_reducible refine AH ?_ _) | (with_reducible refine Below.setCell ?_ zF _) | (with_reducible refine Below.drew ?_) | (with_reducible refine below_drewN ?_ _) | (refine Af zG ?_))):Below w3.heap.size w3 _).mono hsz3)).step hst4);have hsz4:=hst4.2.size;obtain⟨q0,q1,e0,e1,l4⟩:=B6 B4;clear hst4;go_wp2_with fail;refine (HD.out _ (HIN4.out.row ((by (repeat (first | with_reducible exact Below.refl _ _ | with_reducible assumption | (with_reducible refine AH ?_ _) | (with_reducible refine Below.setCell ?_ zF _) | (with_reducible refine Below.drew ?_) | (with_reducible refine below_drewN ?_ _) | (refine Af zG ?_))):Below w3.heap.size w4 _).mono hsz3)).rd).mono ?_;rintro r w6 ⟨v6,rfl,hv6,hst6⟩;obtain⟨a6,c6,hfv,_,_⟩:=AN hv6;simp only[As,AM] at hfv;subst hfv;have BK6:Blk w6 w3.heap.size 215 #[_,.slice none 0 0]:=Blk.tch (B4.set 0 _) hst6.2 zD;have HIN6:=hid ((HIN4.out.row ((by (repeat (first | with_reducible exact Below.refl _ _ | with_reducible assumption | (with_reducible refine AH ?_ _) | (with_reducible refine Below.setCell ?_ zF _) | (with_reducible refine Below.drew ?_) | (with_reducible refine below_drewN ?_ _) | (refine Af zG ?_))):Below w3.heap.size w4 _).mono hsz3)).step hst6);have HSP:=hid (hsp.out.trans hstep);have HG:=hid (fun (W:World) (hW:A6 W g B a s6)=>(by have:=AL W hW;rw[Ae hbad] at this;exact this:Calls Tryz.prog 112 #[.pointer (some ⟨g,0,none⟩)] W fun r w'=>r=.returned (.bool false)∧Below W.heap.size W w'));obtain⟨y0,y1,f0,f1,hl6⟩:=B6 BK6;clear hsp hstep hbad hv6 B4 q0 q1 e0 e1 l4;go_wp2_with fail;refine (HG.out _ (HIN6.out.row ((by (repeat (first | with_reducible exact Below.refl _ _ | with_reducible assumption | (with_reducible refine AH ?_ _) | (with_reducible refine Below.setCell ?_ zF _) | (with_reducible refine Below.drew ?_) | (with_reducible refine below_drewN ?_ _) | (refine Af zG ?_))):Below w3.heap.size w6 _).mono hsz3)).rd).mono ?_;rintro r w7 ⟨rfl,hb7⟩;have hb67:Below w3.heap.size w6 w7:=(by (repeat (first | with_reducible exact Below.refl _ _ | with_reducible assumption | (with_reducible refine AH ?_ _) | (with_reducible refine Below.setCell ?_ zF _) | (with_reducible refine Below.drew ?_) | (with_reducible refine below_drewN ?_ _) | (refine Af zG ?_))):Below w3.heap.size w6 (w6.setCell ⟨w3.heap.size,1,none⟩ (.slice a6 bk.length c6))).trans (hb7.mono zH);have HE:=hid (HIN6.out.row (hb67.mono hsz3)).to;clear hb7;go_wp2;go_ret;rw[HSP.out];exact⟨.slice none 0 0,rfl,Ba.NG (e:=0) (An _) Ba.nil,HE.out⟩
    ·have hS:st.stream B (some z.stream)=((st.num B).1,((st.num B).2:Int)+(z.stream+1)):=by
      simp only[Rs.stream];rw[Ak hf,Int.add_assoc]
     rw[hS] at hstep;clear hS;generalize st.num B=R at*;obtain⟨st1,x⟩:=R;dsimp only at*;have hxb:(0:Int)≤(x:Int)+(z.stream+1)∧(x:Int)+(z.stream+1)≤18446744073709551615:=zD;have d4:decide (bits BinOp.xor IntKind.u64 IntKind.u64.max z.stream≤(x:Int))=false:=by rw[e1];exact Ae hf
     have v1:0≤z.stream+1:=zD;have v2:z.stream+1≤18446744073709551615:=zD;have v3:=hxb.1;have v4:=hxb.2;clear hf e1;have HD:=hid (fun (W:World) (hW:A6 W g B a st1)=>KK W hW hB pos hpos 4 zD);generalize st1.delta B pos 4=D at*;obtain⟨s6,bk⟩:=D;dsimp only at*;go_wp2_with fail;refine HAT.out.mono ?_;rintro r w2 ⟨rfl,rfl⟩;go_wp2_with fail;refine HVR.out.mono ?_;rintro r w3 ⟨rfl,hst3⟩;have HIN3:=hid (hin.out.step hst3);have HO3:=hid (Ba.Xj HO.out (hst3.2.mono fun b hb e=> .inl e) hlt);have hsz3:=HIN3.out.tch.size;have X0:=(hst3.2.cell (p:=⟨bq,o+m*2,none⟩) hbr hbg).trans hc0;have hb3:bq<w3.heap.size:=Aj hbr hst3.2.size;clear hst3 hc0;go_wp2_with fail;refine (HD.out _ (HIN3.out.row ((by (repeat (first | with_reducible exact Below.refl _ _ | with_reducible assumption | (with_reducible refine AH ?_ _) | (with_reducible refine Below.setCell ?_ zF _) | (with_reducible refine Below.drew ?_) | (with_reducible refine below_drewN ?_ _) | (refine Af zG ?_))):Below w3.heap.size w3 _).mono hsz3)).rd).mono ?_;rintro r w6 ⟨v6,rfl,hv6,hst6⟩;obtain⟨a6,c6,hfv,_,_⟩:=AN hv6;simp only[As,AM] at hfv;subst hfv;have BK6:Blk w6 w3.heap.size 215 #[.int .u64 ((x:Int)+(z.stream+1)),.slice none 0 0]:=Blk.tch zC hst6.2 zD;have HIN6:=hid ((HIN3.out.row ((by (repeat (first | with_reducible exact Below.refl _ _ | with_reducible assumption | (with_reducible refine AH ?_ _) | (with_reducible refine Below.setCell ?_ zF _) | (with_reducible refine Below.drew ?_) | (with_reducible refine below_drewN ?_ _) | (refine Af zG ?_))):Below w3.heap.size w3 _).mono hsz3)).step hst6);have HK6:Hid (Tch (fun b=>b=g∨w3.heap.size≤b) w3 w6):=hid ((Tch.JB (by (repeat (first | with_reducible exact Below.refl _ _ | with_reducible assumption | (with_reducible refine AH ?_ _) | (with_reducible refine Below.setCell ?_ zF _) | (with_reducible refine Below.drew ?_) | (with_reducible refine below_drewN ?_ _) | (refine Af zG ?_))):Below w3.heap.size w3 _)).mono (fun b hb e=> .inr e) |>.trans hst6.2 (fun b hb e=> .inl e));by_cases hk6:s6.k=0
     ·rw[Ai hk6] at hstep
      have HSP:=hid (hsp.out.trans hstep);have HG:=hid (fun (W:World) (hW:A6 W g B a s6)=>(by have:=AL W hW;rw[Ad hk6] at this;exact this:Calls Tryz.prog 112 #[.pointer (some ⟨g,0,none⟩)] W fun r w'=>r=.returned (.bool true)∧Below W.heap.size W w'));obtain⟨y0,y1,f0,f1,hl6⟩:=B6 BK6;have HV6:=hid hv6;have hq6:=hst6.2.size;simp at hq6;clear hsp hstep hk6 hv6 hst6;go_wp2_with fail;refine (HG.out _ (HIN6.out.row ((by (repeat (first | with_reducible exact Below.refl _ _ | with_reducible assumption | (with_reducible refine AH ?_ _) | (with_reducible refine Below.setCell ?_ zF _) | (with_reducible refine Below.drew ?_) | (with_reducible refine below_drewN ?_ _) | (refine Af zG ?_))):Below w3.heap.size w6 _).mono hsz3)).rd).mono ?_;rintro r w7 ⟨rfl,hb7⟩;have B7:Blk w7 w3.heap.size 215 #[.int .u64 ((x:Int)+(z.stream+1)),.slice a6 bk.length c6]:=Blk.later (BK6.set 1 _) hb7;obtain⟨z0,z1,_,_,hl7⟩:=B6 B7;have hb67:Below w3.heap.size w6 w7:=(by (repeat (first | with_reducible exact Below.refl _ _ | with_reducible assumption | (with_reducible refine AH ?_ _) | (with_reducible refine Below.setCell ?_ zF _) | (with_reducible refine Below.drew ?_) | (with_reducible refine below_drewN ?_ _) | (refine Af zG ?_))):Below w3.heap.size w6 (w6.setCell ⟨w3.heap.size,1,none⟩ (.slice a6 bk.length c6))).trans (hb7.mono zH);have HIN7:=hid (HIN6.out.row (hb67.mono hsz3));have hsz7:=HIN7.out.tch.size;have hk7:Tch (fun b=>b=g∨w3.heap.size≤b) w3 w7:=HK6.out.trans (Tch.JB hb67) (fun b hb hle=> .inr hle);have O7:=Ba.Xj HO3.out hk7 hlt;obtain⟨cells0,OA0⟩:=HO3.out;have hlt0:∀g',(Value.slice (some ⟨bq,o,none⟩) J.length cv).ownBlock=some g'→g'<w3.heap.size:=fun g' e=>(OA0.1.lt g' e).2;obtain⟨cells,OA⟩:=Ba.below O7 (show Below w7.heap.size w7 (w7.alloc (.cells #[.int .u64 ((x:Int)+(z.stream+1)),.slice a6 bk.length c6] 215)) from zA);have hk8:∀b,w3.heap.size+1≤b→b<w6.heap.size→(w7.alloc (.cells #[.int .u64 ((x:Int)+(z.stream+1)),.slice a6 bk.length c6] 215)).heap[b]? =w6.heap[b]? :=fun b h1 h2=>(Bx w7 _ b (by have:=hb67.size;omega)).trans ((hb7.block b (by simpa using h2)).trans (AB _ _ _ _ zJ));have hv8:=Bb.keep (w':=(w7.alloc (.cells #[.int .u64 ((x:Int)+(z.stream+1)),.slice a6 bk.length c6] 215))) HV6.out (fun b (hb:(w3.alloc (.cells #[.int .u64 ((x:Int)+(z.stream+1)),.slice none 0 0] 215)).heap.size≤b∧b<w6.heap.size)=>hk8 b (by have:=hb.1;simp at this;omega) hb.2);have hx8:ME.r (fun b=>w.heap.size≤b∧b<(w7.alloc (.cells #[.int .u64 ((x:Int)+(z.stream+1)),.slice a6 bk.length c6] 215)).heap.size∧(Value.slice (some ⟨bq,o,none⟩) J.length cv).ownBlock≠some b) (w7.alloc (.cells #[.int .u64 ((x:Int)+(z.stream+1)),.slice a6 bk.length c6] 215)) [.int .u64 ((x:Int)+(z.stream+1)),.slice a6 bk.length c6] ⟨((x:Int)+(z.stream+1)),bk⟩:=by
       refine Vn (x:=⟨((x:Int)+(z.stream+1)),bk⟩) hxb (Bb.mono hv8 fun b hb=> ?_);have h1:=hb.1;have h2:=hb.2;have h3:=hb67.size;simp at h1;refine⟨zD,zH,fun e=> ?_⟩;have:=hlt0 b e;omega
      have HX:=hid hx8;have HA:=hid OA;have HS9:Hid (w.heap.size≤(w7.alloc (.cells #[.int .u64 ((x:Int)+(z.stream+1)),.slice a6 bk.length c6] 215)).heap.size):=hid zH;clear hx8 hv8 OA OA0 hlt0 hk8 O7 hk7 hb67 hb7 B7 y0 y1 f0 f1 HV6;go_wp2_with (at_builtin;go_loud (refine Ar rfl _ _ _ rfl w.heap.size 215 i0 (.agg #[.int .u64 0,.slice none 0 0]) 2 32 Tryz.underlying38 hi hz0 hz1 hz2 rfl zO (.slice (some ⟨bq,o,none⟩) J.length cv) J.length _ rfl HA.out.1 (some ⟨w7.heap.size,0,none⟩) 1 1 [.int .u64 ((x:Int)+(z.stream+1)),.slice a6 bk.length c6] rfl (By w7 215 _ rfl rfl rfl) (by intro u hu;simp at hu;rcases hu with rfl | rfl<;>rfl) zK zD HS9.out ?_;intro v1 w9 hown1 hgrow1 hat1;have OP:=hid (Ba.push HA.out rfl HX.out hown1 hgrow1 hat1 hgrow1.size);have hb9:Below w.heap.size w7 w9:=(Below.grown ((by (repeat (first | with_reducible exact Below.refl _ _ | with_reducible assumption | (with_reducible refine AH ?_ _) | (with_reducible refine Below.setCell ?_ zF _) | (with_reducible refine Below.drew ?_) | (with_reducible refine below_drewN ?_ _) | (refine Af zG ?_))):Below w7.heap.size w7 _).mono hsz7) hgrow1 HS9.out (fun g e=>(HA.out.1.lt g e).1));clear hown1 hgrow1 hat1))
      have HIN9:=hid (HIN7.out.row hb9);have HJ9:Hid (∀y∈J++[(⟨((x:Int)+(z.stream+1)),bk⟩:BH)],0≤y.stream∧y.stream≤18446744073709551615):=hid (fun y hy=>by
       rw[EO,De] at hy;rcases hy with hy | rfl
       ·exact hJb.out y hy
       ·exact hxb)
      go_roundw
      case rel=>exact ⟨m+1+1,J++[⟨((x:Int)+(z.stream+1)),bk⟩],s6,zD,zV,hid (by rw[Ag,hJl.out];rfl),OP.out,HJ9,HIN9,hid (by rw[HSP.out];simp)⟩
      case measure=>simp [intOf];omega
     ·rw[Ak hk6] at hstep
      have HSP:=hid (hsp.out.trans hstep);have HG:=hid (fun (W:World) (hW:A6 W g B a s6)=>(by have:=AL W hW;rw[Ae hk6] at this;exact this:Calls Tryz.prog 112 #[.pointer (some ⟨g,0,none⟩)] W fun r w'=>r=.returned (.bool false)∧Below W.heap.size W w'));obtain⟨y0,y1,f0,f1,hl6⟩:=B6 BK6;clear hsp hstep hk6 hv6;go_wp2_with fail;refine (HG.out _ (HIN6.out.row ((by (repeat (first | with_reducible exact Below.refl _ _ | with_reducible assumption | (with_reducible refine AH ?_ _) | (with_reducible refine Below.setCell ?_ zF _) | (with_reducible refine Below.drew ?_) | (with_reducible refine below_drewN ?_ _) | (refine Af zG ?_))):Below w3.heap.size w6 _).mono hsz3)).rd).mono ?_;rintro r w7 ⟨rfl,hb7⟩;have hb67:Below w3.heap.size w6 w7:=(by (repeat (first | with_reducible exact Below.refl _ _ | with_reducible assumption | (with_reducible refine AH ?_ _) | (with_reducible refine Below.setCell ?_ zF _) | (with_reducible refine Below.drew ?_) | (with_reducible refine below_drewN ?_ _) | (refine Af zG ?_))):Below w3.heap.size w6 (w6.setCell ⟨w3.heap.size,1,none⟩ (.slice a6 bk.length c6))).trans (hb7.mono zH);have HE:=hid (HIN6.out.row (hb67.mono hsz3)).to;clear hb7;go_wp2;go_ret;rw[HSP.out];exact⟨.slice none 0 0,rfl,Ba.NG (e:=0) (An _) Ba.nil,HE.out⟩
  ·obtain rfl:k=N:=by omega
   have hE:=hsp.out;rw[Lx] at hE;have HSP:Hid (Rs.DS B pos k s1 none []=(st,J)):=hid hE;have hv:=Ba.NG (An _) hown;have HV:=hid hv;have HE:=hid hin.out.to;clear hE hv hown;go_wp2;go_ret;rw[HSP.out];exact⟨_,rfl,HV.out,HE.out⟩
def Sp(h:List BH × Nat):Entry:=⟨h.1,[]⟩
def Gg(l:List (List BH × Nat)):List Value:=l.map fun h=> .int .i64 (h.2:Int)
structure It(lo:Nat)(W:World)(v u:Value)(J:List (List BH × Nat)):Prop where
 els:∃cells,AY (fun b=>lo≤b∧b<W.heap.size∧u.ownBlock≠some b) K5 lo 180 2 W v (J.map Sp) cells
 szs:W.ownsRow lo 3 1 u J.length (Gg J)
theorem TX{lo':Nat}{e':TypeId}{sz' m:Nat}{ys:List Value}(h:W.ownsRow lo e sz v n xs)(h':W.ownsRow lo' e' sz' u m ys)(hne:e≠e'):∀b,v.ownBlock=some b→u.ownBlock≠some b:=by
 intro b hv hu;rcases h.2 with ⟨rfl,_⟩ | ⟨g,cap,cur,rfl,_,hg,_⟩
 ·cases hv
 ·rcases h'.2 with ⟨rfl,_⟩ | ⟨g',cap',cur',rfl,_,hg',_⟩
  ·cases hu
  ·have e1:g=b:=by simpa [Value.ownBlock] using hv
   have e2:g'=b:=by simpa [Value.ownBlock] using hu
   subst e1 e2;rw[hg] at hg';simp at hg';exact hne hg'.2
theorem LO(h:W.ownsRow lo e sz v n xs)(hk:∀b,v.ownBlock=some b→b<W.heap.size→W'.heap[b]? =W.heap[b]?):W'.ownsRow lo e sz v n xs:=by
 refine⟨h.1,?_⟩;rcases h.2 with h0 | ⟨g',cap,cur,h1,h2,h3,h4⟩
 ·exact .inl h0
 ·exact .inr ⟨g',cap,cur,h1,h2,(hk g' (by rw[h1];rfl) (Blk.lt h3)).trans h3,h4⟩
theorem En(h:W.ownsRow lo e sz v n xs):∀b,v.ownBlock=some b→lo≤b∧b<W.heap.size:=by
 intro b hv;rcases h.2 with ⟨rfl,_⟩ | ⟨g,cap,cur,rfl,hb,hg,_⟩
 ·cases hv
 ·have e1:g=b:=by simpa [Value.ownBlock] using hv
  subst e1;exact⟨hb,Blk.lt hg⟩
theorem It.nil:It lo W (.slice none 0 0) (.slice none 0 0) []:=⟨⟨[],AY.nil⟩,⟨rfl,.inl ⟨rfl,rfl⟩⟩⟩
theorem It.tch{lo g:Nat}{W W':World}{v u:Value}{J:List (List BH × Nat)}(h:It lo W v u J)(hb:Tch (fun b=>b=g∨W.heap.size≤b) W W')(hg:g<lo):It lo W' v u J:=by
 obtain⟨⟨cells,OA⟩,hu⟩:=h;have hk:∀b,lo≤b→b<W.heap.size→W'.heap[b]? =W.heap[b]? :=fun b h1 h2=>hb.block b h2 zD;refine⟨⟨cells,?_⟩,LO hu fun b hv hl=>hk b (En hu b hv).1 hl⟩;refine AY.mono (AY.keep OA (fun b h=>hk b h.1 h.2.1) fun b hv=>hk b (En OA.1 b hv).1 (En OA.1 b hv).2) fun b h=>⟨h.1,Aj h.2.1 hb.size,h.2.2⟩
structure Hz(lo:Nat)(B:Nat)(W:World)(v u:Value)(J J':List (List BH × Nat)):Prop where
 els:∃cells,AY (fun b=>lo≤b∧b<B∧u.ownBlock≠some b) K5 lo 180 2 W v (J'.map Sp) cells
 szs:W.ownsRow lo 3 1 u J.length (Gg J)
 le:B≤W.heap.size
theorem Hz.of{lo:Nat}{W W':World}{v v' u:Value}{J:List (List BH × Nat)}{x:List BH × Nat}{cells:List (List Value)}{news:List Value}
 (OA:AY (fun b=>lo≤b∧b<W.heap.size∧u.ownBlock≠some b) K5 lo 180 2 W v (J.map Sp) cells) (hu:W.ownsRow lo 3 1 u J.length (Gg J))
 (hn:news.length=2) (hx:K5.r (fun b=>(lo≤b∧b<W.heap.size∧u.ownBlock≠some b)∧v.ownBlock≠some b) W news (Sp x))
 (hown:W'.ownsRow lo 180 2 v' (J.length+1) (cells.flatten++news)) (hg:W.grownBy W' v.ownBlock) (hat:v'.ownBlock=v.ownBlock∨v'.ownBlock=some W.heap.size):Hz lo W.heap.size W' v' u J (J++[x]):=by
 refine⟨⟨cells++[news],?_⟩,LO hu fun b hv hl=>hg.block b hl (fun e=>TX OA.1 hu zO b e.symm hv),hg.size⟩;rw[BX,Dg,Lz];exact AY.push OA (fun b hb=>hb.2.1) hn hx zCr hg hat
theorem Hz.below{B:Nat}{J J':List (List BH × Nat)}(h:Hz lo B W v u J J')(hb:Below W.heap.size W W'):Hz lo B W' v u J J':=by
 obtain⟨⟨cells,OA⟩,hu,hB⟩:=h;exact⟨⟨cells,AY.keep OA (fun b h=>hb.block b (by have:=h.2.1;omega)) fun b hv=>hb.block b (En OA.1 b hv).2⟩,LO hu fun b hv hl=>hb.block b hl,by have:=hb.size;omega⟩
theorem Hz.to{B:Nat}{u':Value}{J:List (List BH × Nat)}{x:List BH × Nat}(h:Hz lo B W v u J (J++[x]))
 (hown:W'.ownsRow lo 3 1 u' (J.length+1) (Gg J++[.int .i64 (x.2:Int)])) (hg:W.grownBy W' u.ownBlock) (hat:u'.ownBlock=u.ownBlock∨u'.ownBlock=some W.heap.size):It lo W' v u' (J++[x]):=by
 obtain⟨⟨cells,OA⟩,hu,hB⟩:=h;refine⟨⟨cells,?_⟩,?_⟩
 ·refine AY.mono (AY.keep OA (fun b h=>hg.block b (by have:=h.2.1;omega) (fun e=>h.2.2 e.symm)) fun b hv=>hg.block b (En OA.1 b hv).2 (fun e=>TX OA.1 hu zO b hv e.symm)) fun b h=>⟨h.1,?_,fun e=> ?_⟩
  ·have:=h.2.1;have:=hg.size;omega
  ·rcases hat with h' | h'
   ·exact h.2.2 (h' ▸ e)
   ·rw[h'] at e;have:=A7 e;have:=h.2.1;omega
 ·have e:Gg (J++[x])=Gg J++[.int .i64 (x.2:Int)]:=by simp[Gg]
  rw[e,Ag];exact hown
theorem It.out{lo:Nat}{W:World}{v:Value}{J:List (List BH × Nat)}(h:It lo W v u J):V9.r (fun b=>lo≤b∧b<W.heap.size) W [v] (J.map Sp):=by
 obtain⟨⟨cells,OA⟩,hu⟩:=h;exact Ba.NG (An _) ⟨cells,AY.to OA fun b h=>⟨h.1,h.2.1⟩⟩
end Go.Proofs.YtfddhafbhceoaaaGreat
namespace Go.Bs
open Go.RowKit
variable{c i n:Nat}{a:Option Addr}{v:Value}
structure Jj where
 epoch:Int
 node:Int
 tail:Int
 deriving DecidableEq
structure BV where
 lo:Int
 hi:Int
 sets:List (List Int)
 deriving DecidableEq
structure EZ where
 epoch:Int
 stripes:List BV
 deriving DecidableEq
structure Msg where
 kind:Int
 epoch:Int
 seq:Int
 pos:Int
 count:Int
 state:Int
 streams:List Int
 links:List BH
 data:List UInt8
 sea:Jj
 proj:EZ
 deriving DecidableEq
def XH:Rp Jj:=rBy (fun s=>(s.epoch,s.node,s.tail)) (Eb (GZ .u64) (Eb (GZ .u64) (GZ .u64)))
def EH:Rp (List (List Int)):=rSl 1 Bb
def IY:Rp BV:=rBy (fun s=>(s.lo,s.hi,s.sets)) (Eb (GZ .u64) (Eb (GZ .u64) EH))
def Bq:Rp (List BV):=rSl 3 IY
def TL:Rp EZ:=rBy (fun p=>(p.epoch,p.stripes)) (Eb (GZ .u64) Bq)
def QF:Rp Msg:=rBy (fun m=>(m.kind,m.epoch,m.seq,m.pos,m.count,m.state,m.streams,m.links,m.data,m.sea,m.proj))
 (Eb (GZ .i64) (Eb (GZ .u64) (Eb (GZ .u64) (Eb (GZ .u64) (Eb (GZ .i64) (Eb (GZ .i64) (Eb Bb (Eb Cm (Eb Ah (Eb XH TL))))))))))
def inU(x:Int):Prop:=0≤x∧x≤18446744073709551615
def inI(x:Int):Prop:=-9223372036854775808≤x∧x≤9223372036854775807
section
variable {S:Nat→Prop} {w:World} {cs:List Value}
theorem Ts{x:Jj}(h:XH.r S w cs x):cs=[.int .u64 x.epoch,.int .u64 x.node,.int .u64 x.tail]∧inU x.epoch∧inU x.node∧inU x.tail:=by
 obtain⟨c1,c2,rfl,⟨rfl,h1⟩,c3,c4,rfl,⟨rfl,h2⟩,rfl,h3⟩:=h;exact⟨rfl,F9 h1,F9 h2,F9 h3⟩
theorem Qs{x:BV}(h:IY.r S w cs x):∃a c,cs=[.int .u64 x.lo,.int .u64 x.hi,.slice a x.sets.length c]∧inU x.lo∧inU x.hi∧EH.r S w [.slice a x.sets.length c] x.sets:=by
 obtain⟨c1,c2,rfl,⟨rfl,h1⟩,c3,c4,rfl,⟨rfl,h2⟩,h3⟩:=h;obtain⟨a,c,rfl,h4,_⟩:=AN h3;exact⟨a,c,rfl,F9 h1,F9 h2,h4⟩
theorem RZ{x:EZ}(h:TL.r S w cs x):∃a c,cs=[.int .u64 x.epoch,.slice a x.stripes.length c]∧inU x.epoch∧Bq.r S w [.slice a x.stripes.length c] x.stripes:=by
 obtain⟨c1,c2,rfl,⟨rfl,h1⟩,h3⟩:=h;obtain⟨a,c,rfl,h4,_⟩:=AN h3;exact⟨a,c,rfl,F9 h1,h4⟩
def Ep(m:Msg)(a1:Option Addr)(c1:Nat)(a2:Option Addr)(c2:Nat)(a3:Option Addr)(c3:Nat)(a4:Option Addr)(c4:Nat):List Value:=
  [.int .i64 m.kind,.int .u64 m.epoch,.int .u64 m.seq,.int .u64 m.pos,.int .i64 m.count,.int .i64 m.state,.slice a1 m.streams.length c1,.slice a2 m.links.length c2,.slice a3 m.data.length c3,
   .int .u64 m.sea.epoch,.int .u64 m.sea.node,.int .u64 m.sea.tail,.int .u64 m.proj.epoch,.slice a4 m.proj.stripes.length c4]
structure A9(S:Nat→Prop)(w:World)(m:Msg)(a1:Option Addr)(c1:Nat)(a2:Option Addr)(c2:Nat)(a3:Option Addr)(c3:Nat)(a4:Option Addr)(c4:Nat):Prop where
 kind:inI m.kind
 epoch:inU m.epoch
 seq:inU m.seq
 pos:inU m.pos
 count:inI m.count
 state:inI m.state
 sealE:inU m.sea.epoch
 sealN:inU m.sea.node
 sealT:inU m.sea.tail
 projE:inU m.proj.epoch
 streams:Bb.r S w [.slice a1 m.streams.length c1] m.streams
 links:Cm.r S w [.slice a2 m.links.length c2] m.links
 data:Ah.r S w [.slice a3 m.data.length c3] m.data
 stripes:Bq.r S w [.slice a4 m.proj.stripes.length c4] m.proj.stripes
theorem PD{x:Msg}(h:QF.r S w cs x):∃a1 c1 a2 c2 a3 c3 a4 c4,cs=Ep x a1 c1 a2 c2 a3 c3 a4 c4∧A9 S w x a1 c1 a2 c2 a3 c3 a4 c4:=by
 obtain⟨_,_,rfl,⟨rfl,h1⟩,_,_,rfl,⟨rfl,h2⟩,_,_,rfl,⟨rfl,h3⟩,_,_,rfl,⟨rfl,h4⟩,_,_,rfl,⟨rfl,h5⟩,_,_,rfl,⟨rfl,h6⟩,_,_,rfl,h7,_,_,rfl,h8,_,_,rfl,h9,_,_,rfl,h10,h11⟩:=h;obtain⟨a1,c1,rfl,g1,_⟩:=AN h7;obtain⟨a2,c2,rfl,g2,_⟩:=AN h8;obtain⟨a3,c3,rfl,g3,_⟩:=AN h9;obtain⟨rfl,s1,s2,s3⟩:=Ts h10;obtain⟨a4,c4,rfl,p1,g4⟩:=RZ h11;exact⟨a1,c1,a2,c2,a3,c3,a4,c4,rfl,bounds_i64 h1,F9 h2,F9 h3,F9 h4,bounds_i64 h5,bounds_i64 h6,s1,s2,s3,p1,g1,g2,g3,g4⟩
theorem VT{x:BV}(h0:inU x.lo)(h1:inU x.hi)(h:EH.r S w [v] x.sets):IY.r S w [.int .u64 x.lo,.int .u64 x.hi,v] x:=
 ⟨[_],[_,_],rfl,⟨rfl,Fj h0⟩,[_],[_],rfl,⟨rfl,Fj h1⟩,h⟩
theorem GQ{xs:List (List Int)}(h:EH.r S w [.slice a n c] xs)(hi:i<xs.length):∃b off,a=some ⟨b,off,none⟩∧S b∧∃a' c',w.cell? ⟨b,off+i,none⟩=some (.slice a' xs[i].length c')∧Bb.r S w [.slice a' xs[i].length c'] xs[i]:=by
 obtain⟨b,off,e,hS,cs,_,hc,hA⟩:=Kg h hi;obtain⟨a',c',rfl,h1,_⟩:=AN hA;have:=hc 0 _ rfl;rw[Fi,Cu] at this;exact⟨b,off,e,hS,a',c',this,h1⟩
theorem Ge{xs:List BV}(h:Bq.r S w [.slice a n c] xs)(hi:i<xs.length):∃b off,a=some ⟨b,off,none⟩∧S b∧∃a' c',w.cell? ⟨b,off+i*3,none⟩=some (.int .u64 xs[i].lo)∧w.cell? ⟨b,off+i*3+1,none⟩=some (.int .u64 xs[i].hi)∧w.cell? ⟨b,off+i*3+2,none⟩=some (.slice a' xs[i].sets.length c')∧
  inU xs[i].lo∧inU xs[i].hi∧EH.r S w [.slice a' xs[i].sets.length c'] xs[i].sets:=by
 obtain⟨b,off,e,hS,cs,_,hc,hA⟩:=Kg h hi;obtain⟨a',c',rfl,h1,h2,h3⟩:=Qs hA;exact⟨b,off,e,hS,a',c',hc 0 _ rfl,hc 1 _ rfl,hc 2 _ rfl,h1,h2,h3⟩
end
def FP(s:Jj):Bool:=epR s.epoch&&(decide (s.node≤4294967295)&&decide (s.tail≤4611686018427387904))
def Dx(l:List Int):Bool:=decide (1≤l.length∧l.length≤8)&&(Bj l&&decide (l.getLastD 0≤4294967295))
def Dq(l:List Int)(others:List (List Int)):Bool:=others.all fun o=>l.all fun n=> !o.contains n
def Iv(L:List (List Int))(i:Nat):Bool:=Dx (L.getD i [])&&Dq (L.getD i []) (L.take i)
def BR(L:List (List Int)):Nat→Bool
 | 0=>true
 | n+1=>BR L n&&Iv L n
def Dc(s:BV):Bool:=decide (s.lo<s.hi∧s.hi≤4611686018427387904∧1≤s.sets.length∧s.sets.length≤8)&&BR s.sets s.sets.length
def FE:Int→List BV→Bool
 | p,[]=>decide (p=4611686018427387904)
 | p,s::l=>decide (s.lo=p)&&(Dc s&&FE s.hi l)
def DG(p:EZ):Bool:=epR p.epoch&&(decide (1≤p.stripes.length∧p.stripes.length≤64)&&FE 0 p.stripes)
def D7(k:Int):Nat:=if k<1∨14<k then 0 else [0,1,33,0,1,1,10,0,128,36,0,64,17,128,4].getD k.toNat 0
def AE(k:Int)(p:Nat):Bool:=D7 k/p%2==1
def Em(k:Int):Int:=if k=9 then 4 else 20
def Bw(k st:Int):Bool:=decide (k=2) || (decide (k=9)&&decide (st=1))
def Bv(h r z:Bool):Bool:=if h then r else z
def QM:Jj:=⟨0,0,0⟩
def Gl(m:Msg):Bool:=
 decide (1≤m.kind∧m.kind≤14)&&(Bv (AE m.kind 1) (poR m.pos) (decide (m.pos=0))&&(Bv (AE m.kind 2) (decide (1≤m.count∧m.count≤65536)) (decide (m.count=0))&&
 (Bv (AE m.kind 4) (decide (1≤m.state∧m.state≤Em m.kind)) (decide (m.state=0))&&(Bv (AE m.kind 8) (decide (m.streams.length≤16)&&Bj m.streams) (decide (m.streams.length=0))&&
 (Bv (AE m.kind 16) (CH m.pos m.links) (decide (m.links.length=0))&&(Bv (AE m.kind 64) (FP m.sea) (decide (m.sea=QM))&&
 (Bv (AE m.kind 128) (DG m.proj) (decide (m.proj.epoch=0)&&decide (m.proj.stripes.length=0))&&(decide (m.data.length=0) || (Bw m.kind m.state&&decide (m.data.length≤1048576))))))))))
theorem N6(k:Int):D7 k∈[0,1,33,10,128,36,64,17,4]:=by
 unfold D7;split
 ·simp
 ·rename_i h
  have h':k.toNat=1∨k.toNat=2∨k.toNat=3∨k.toNat=4∨k.toNat=5∨k.toNat=6∨k.toNat=7∨k.toNat=8∨k.toNat=9∨k.toNat=10∨k.toNat=11∨k.toNat=12∨k.toNat=13∨k.toNat=14:=zD;rcases h' with h | h | h | h | h | h | h | h | h | h | h | h | h | h<;>rw [h]<;>decide
theorem Ws(k:Int):AE k 32=(decide (k=2) || decide (k=9)):=by
 unfold AE D7;split
 ·have h1:decide (k=2)=false:=Ae zD
  have h2:decide (k=9)=false:=Ae zD;rw[h1,h2];decide
 ·rename_i h
  have h':k=1∨k=2∨k=3∨k=4∨k=5∨k=6∨k=7∨k=8∨k=9∨k=10∨k=11∨k=12∨k=13∨k=14:=zD;rcases h' with h | h | h | h | h | h | h | h | h | h | h | h | h | h<;>subst h<;>decide
end Go.Bs
namespace Go.Proofs.YtfddhafbhceoaaaGreat
open Go.RowKit Go.Bs Go.Maps
variable{h:Bool}{B:List UInt8}{xs:List Value}{base c g lo n sz:Nat}{S:Nat → Prop}{a:Option Addr}{s:Rs}{e t:TypeId}{u v:Value}{W W' w:World}
def tlR(x:Int):Bool:=decide (x≤4611686018427387904)
def Rs.tl(B:List UInt8)(s:Rs):Rs × Nat:=if (s.num B).1.k=0 then (if tlR ((s.num B).2:Int)=true then s.num B else ((s.num B).1.fail 3 s.p,0)) else ((s.num B).1,0)
def Rs.EA(B:List UInt8):Nat→Rs→List Int→Rs × List Int
  | 0,s,out=>(s,out)
  | n+1,s,out=>
    if (s.num B).1.k=0 then
      (if out≠[]∧18446744073709551615-out.getLastD 0≤((s.num B).2:Int) then ((s.num B).1.fail 13 s.p,[])
       else Rs.EA B n (s.num B).1 (out++[if out=[] then ((s.num B).2:Int) else ((s.num B).2:Int)+(out.getLastD 0+1)]))
    else ((s.num B).1,[])
def Dk:Jj:=⟨0,0,0⟩
def Rs.seal_(B:List UInt8)(s:Rs):Rs × Jj:=
 let e:=s.ep B
 let n:=e.1.most B 4294967295
 let t:=n.1.tl B
 if t.1.k=0 then (t.1,⟨(e.2:Int),(n.2:Int),(t.2:Int)⟩) else (t.1,Dk)
def Rs.many(B:List UInt8)(s:Rs)(m:Int):Rs × Nat:=(if (s.int B m).2=0 then (s.int B m).1.fail 3 s.p else (s.int B m).1,(s.int B m).2)
def Rs.Fb(B:List UInt8)(s:Rs)(others:List (List Int)):Rs × List Int:=
 let e:=s.many B 8
 let f:=Rs.EA B e.2 e.1 []
 if f.1.k=0 then
  (if 4294967295<f.2.getLastD 0 then (f.1.fail 3 e.1.p,f.2) else if Dq f.2 others=true then f else (f.1.fail 13 e.1.p,f.2))
 else (f.1,[])
def Rs.Ek(B:List UInt8):Nat→Rs→List (List Int)→Rs × List (List Int)
 | 0,s,out=>(s,out)
 | n+1,s,out=>if (s.Fb B out).1.k=0 then Rs.Ek B n (s.Fb B out).1 (out++[(s.Fb B out).2]) else ((s.Fb B out).1,[])
def ID:BV:=⟨0,0,[]⟩
def Rs.span(B:List UInt8)(s:Rs)(lo:Int):Rs × Nat:=
 let s0:=if 4611686018427387904<lo then s.fail 3 s.p else s
 let d:=s0.num B
 (if 4611686018427387904-min lo 4611686018427387904≤(d.2:Int) then d.1.fail 3 s.p else d.1,d.2)
def Rs.BB(B:List UInt8)(s:Rs)(lo:Int):Rs × BV:=
 let d:=s.span B lo
 let k:=d.1.many B 8
 let u:=Rs.Ek B k.2 k.1 []
 if u.1.k=0 then (u.1,⟨lo,lo+d.2+1,u.2⟩) else (u.1,ID)
def Rs.BJ(B:List UInt8):Nat→Rs→Int→List BV→Rs × Int × List BV
 | 0,s,lo,out=>(s,lo,out)
 | n+1,s,lo,out=>if (s.BB B lo).1.k=0 then Rs.BJ B n (s.BB B lo).1 (s.BB B lo).2.hi (out++[(s.BB B lo).2]) else ((s.BB B lo).1,0,[])
def DE:EZ:=⟨0,[]⟩
def Rs.Ds(B:List UInt8)(s:Rs):Rs × EZ:=
 let e:=s.ep B
 let i:=e.1.many B 64
 let u:=Rs.BJ B i.2 i.1 0 []
 let v:=if u.2.1=4611686018427387904 then u.1 else u.1.fail 3 u.1.p
 if v.k=0 then (v,⟨(e.2:Int),u.2.2⟩) else (v,DE)
theorem Sy(x:Int)(w:World):Calls Tryz.prog 363 #[.int .u64 x] w fun r w'=>r=.returned (.bool (tlR x))∧w=w':=by
 go_enter Tryz.func363,Tryz.ntmps363;go_wp2_with fail;go_ret;exact⟨rfl,rfl⟩
theorem O0(w:World){g:Nat}{B:List UInt8}{a:Option Addr}{s:Rs}(h:A6 w g B a s)(hB:B.length≤1000000000):
  Calls Tryz.prog 255 #[.pointer (some ⟨g,0,none⟩),.func (Fn.func 363) #[] #[]] w fun r w'=>r=.returned (.int .u64 ((s.tl B).2:Int))∧AG w g B a (s.tl B).1 w':=by
 have HAT:=hid (Cv w h);have HVR:=hid (Da w h zD);have hxb:=Rs.K9 (B:=B) (s:=s);have HIN:=hid (DC.refl h);unfold Rs.tl;generalize s.num B=R at*;obtain⟨st1,x⟩:=R;dsimp only at*;have HRT:=hid (fun (W:World)=>Sy (x:Int) W);have HBAD:=hid hxb;clear h hxb;by_cases hk1:st1.k=0
 ·rw[Ai hk1]
  by_cases hr:tlR (x:Int)=true
  ·rw[Ai hr]
   rw[hr] at HRT;have HK:Hid (decide (st1.k=0)=true):=hid (Ad hk1);clear hk1 hr;go_enter Jk,H6;go_wp2_with fail;refine HAT.out.mono ?_;rintro r w2 ⟨rfl,rfl⟩;go_wp2_with fail;refine HVR.out.mono ?_;rintro r w3 ⟨rfl,hst3⟩;have HIN3:=hid (HIN.out.step hst3);clear hst3;go_wp2_with fail;refine (HRT.out w3).mono ?_;rintro r w3' ⟨rfl,rfl⟩;go_wp2_with fail;refine ((by have:=AL w3 HIN3.out.rd;rw[HK.out] at this;exact this:Calls Tryz.prog 112 #[.pointer (some ⟨g,0,none⟩)] w3 fun r w'=>r=.returned (.bool true)∧Below w3.heap.size w3 w')).mono ?_;rintro r w5 ⟨rfl,hb5⟩;have HE:=hid (HIN3.out.to.then hb5);go_wp2;go_ret;exact⟨rfl,HE.out⟩
  ·rw[Ak hr]
   rw[Bool.eq_false_iff.2 hr] at HRT;have hfk:(st1.fail 3 s.p).k≠0:=Rs.BE zD;clear hk1 hr;go_enter Jk,H6;go_wp2_with fail;refine HAT.out.mono ?_;rintro r w2 ⟨rfl,rfl⟩;go_wp2_with fail;refine HVR.out.mono ?_;rintro r w3 ⟨rfl,hst3⟩;have HIN3:=hid (HIN.out.step hst3);clear hst3;go_wp2_with fail;refine (HRT.out w3).mono ?_;rintro r w3' ⟨rfl,rfl⟩;go_wp2_with fail;refine (BP w3 HIN3.out.rd 3 (s.p:Int) zD).mono ?_;rintro r w4 ⟨rfl,hst4⟩;have HIN4:=hid (HIN3.out.step hst4);have hg:=AL w4 HIN4.out.rd;rw[Ae hfk] at hg;have HG:=hid hg;clear hst4 hg hfk;go_wp2_with fail;refine HG.out.mono ?_;rintro r w5 ⟨rfl,hb5⟩;have HE:=hid (HIN4.out.to.then hb5);go_wp2;go_ret;exact⟨rfl,HE.out⟩
 ·rw[Ak hk1]
  have hx0:=HBAD.out hk1;subst hx0;have hfk:st1.k≠0:=hk1;have hfid:st1.fail 3 s.p=st1:=Rs.Cb hk1;rw[show tlR ((0:Nat):Int)=true from zO] at HRT;clear hk1;go_enter Jk,H6;go_wp2_with fail;refine HAT.out.mono ?_;rintro r w2 ⟨rfl,rfl⟩;go_wp2_with fail;refine HVR.out.mono ?_;rintro r w3 ⟨rfl,hst3⟩;have HIN3:=hid (HIN.out.step hst3);clear hst3;go_wp2_with fail;refine (HRT.out w3).mono ?_;rintro r w3' ⟨rfl,rfl⟩;go_wp2_with fail;refine ((by have:=AL w3 HIN3.out.rd;rw[Ae hfk] at this;exact this:Calls Tryz.prog 112 #[.pointer (some ⟨g,0,none⟩)] w3 fun r w'=>r=.returned (.bool false)∧Below w3.heap.size w3 w')).mono ?_;rintro r w5 ⟨rfl,hb5⟩;have HE:=hid (HIN3.out.to.then hb5);clear hfk hfid;go_wp2;go_ret;exact⟨rfl,HE.out⟩
theorem Ow(w:World){g:Nat}{B:List UInt8}{a:Option Addr}{s:Rs}(h:A6 w g B a s)(hB:B.length≤1000000000):
  Calls Tryz.prog 350 #[.pointer (some ⟨g,0,none⟩)] w fun r w'=>r=.returned (.int .u64 ((s.tl B).2:Int))∧AG w g B a (s.tl B).1 w':=by
 have HR:=hid (O0 w h hB);generalize s.tl B=R at*;clear h;go_enter Tryz.func350,Tryz.ntmps350;go_wp2_with fail;refine HR.out.mono ?_;rintro r w1 ⟨rfl,hst⟩;have HST:=hid hst;clear hst;go_wp2;go_ret;exact⟨rfl,HST.out⟩
def D9:Option Int→List Int→List Int
 | _,[]=>[]
 | p,x::l=>(match p with | none=>x | some q=>x-q-1)::D9 (some x) l
def GO(l:List Int):List UInt8:=CG (D9 none l)
def Dw(l:List Int):List UInt8:=Az l.length++GO l
def Ey(l:List (List Int)):List UInt8:=(l.map Dw).flatten
def CY(s:BV):List UInt8:=Az (s.hi-s.lo-1).toNat++Az s.sets.length++Ey s.sets
def Cq(l:List BV):List UInt8:=(l.map CY).flatten
def Dz(p:EZ):List UInt8:=Az p.epoch.toNat++Az p.stripes.length++Cq p.stripes
def Dy(s:Jj):List UInt8:=Az s.epoch.toNat++Az s.node.toNat++Az s.tail.toNat
def AQ(h:Bool)(b:List UInt8):List UInt8:=if h then b else []
def D4(m:Msg):List UInt8:=
 AQ (AE m.kind 1) (Az m.pos.toNat)++AQ (AE m.kind 2) (Az m.count.toNat)++AQ (AE m.kind 4) [UInt8.ofNat m.state.toNat]++
 AQ (AE m.kind 8) (Dw m.streams)++AQ (AE m.kind 16) (Ci m.pos m.links)++AQ (Bw m.kind m.state) (Bk m.data)++
 AQ (AE m.kind 64) (Dy m.sea)++AQ (AE m.kind 128) (Dz m.proj)
theorem Gu:∀(p:Option Int) (l:List Int),(D9 p l).length=l.length
 | _,[]=>rfl
 | p,x::l=>by simp only[D9,AO,Gu _ l]
theorem KS:∀(l:List Int) (p:Option Int) (k:Nat) (h:k<l.length),(D9 p l)[k]'(by rw[Gu];exact h)=if hk:k=0 then (match p with | none=>l[k] | some q=>l[k]-q-1) else l[k]-l[k-1]-1
 | [],p,k,h=>by simp at h
 | x::l,p,0,h=>by cases p<;>simp [D9]
 | x::l,p,k+1,h=>by
  have hk:k<l.length:=by simp at h;omega
  have:=KS l (some x) k hk;rw[dif_neg zD];simp only[D9,Aw,Ft];rw[this];by_cases h0:k=0
  ·subst h0;simp
  ·rw[dif_neg h0]
   obtain⟨j,rfl⟩:∃j,k=j+1:=⟨k-1,zD⟩;simp
theorem Xd(l:List Int):(GO l).length≤10*l.length:=by
 have:=Hc (D9 none l);rw[Gu] at this;exact this
theorem NK(l:List Int):(Dw l).length≤10+10*l.length:=by
 unfold Dw;have:=Xd l;have:=(AZ l.length).1;rw[Ag];omega
theorem NJ(l:List (List Int))(k:Nat)(h:k<l.length):Ey (l.take (k+1))=Ey (l.take k)++Dw l[k]:=by
 unfold Ey;rw[AW h,BX,CK];simp only[Dg,Lz,Du,List.flatten_nil,BK]
theorem Ke(l:List BV)(k:Nat)(h:k<l.length):Cq (l.take (k+1))=Cq (l.take k)++CY l[k]:=by
 unfold Cq;rw[AW h,BX,CK];simp only[Dg,Lz,Du,List.flatten_nil,BK]
theorem Kl{α:Type}(f:α→List UInt8)(l:List α)(k:Nat):((l.take k).map f).flatten.length≤(l.map f).flatten.length:=by
 have:(l.map f).flatten=((l.take k).map f).flatten++((l.drop k).map f).flatten:=by rw[←CK,←BX,Ce]
 rw[this,Ag];omega
theorem PS{α:Type}(f:α→List UInt8)(l:List α)(b:Nat)(h:∀x∈l,(f x).length≤b):(l.map f).flatten.length≤b*l.length:=by
 induction l with
 | nil=>simp
 | cons x l ih=>
  have h1:=h x zN;have h2:=ih fun y hy=>h y (by simp[hy]);simp only[Dg,Du,Ag,AO,Nat.mul_add,Fi];omega
theorem Rw(L:List (List Int)):∀n i,BR L n=true→i<n→Iv L i=true
 | 0,i,_,h=>by omega
 | n+1,i,h,hi=>by
  simp only[BR,Aq] at h;by_cases hn:i=n
  ·rw[hn];exact h.2
  ·exact Rw L n i h.1 zD
theorem Jg{α:Type}(l:List α)(i:Nat)(d:α)(h:i<l.length):l.getD i d=l[i]:=by
 rw[IK,AJ h];rfl
theorem LH{L:List (List Int)}(h:BR L L.length=true)(i:Nat)(hi:i<L.length):Dx L[i]=true:=by
 have:=Rw L _ i h hi;simp only[Iv,Aq,Jg L i [] hi] at this;exact this.1
theorem ND{s:BV}(h:Dc s=true):(CY s).length≤740:=by
 simp only[Dc,Aq,Av] at h;have h1:=(AZ (s.hi-s.lo-1).toNat).1;have h2:=(AZ s.sets.length).1;have h3:=PS Dw s.sets 90 fun x hx=>by
  obtain⟨i,hi,rfl⟩:=Fa hx;have:=LH h.2 i hi;simp only[Dx,Aq,Av] at this;have:=NK s.sets[i];omega
 unfold CY Ey;simp only[Ag];omega
theorem JY:∀(l:List BV) (p:Int),FE p l=true→∀s∈l,Dc s=true
 | [],p,_,s,hs=>by simp at hs
 | x::l,p,h,s,hs=>by
  simp only[FE,Aq] at h;rcases List.mem_cons.1 hs with rfl | hs
  ·exact h.2.1
  ·exact JY l _ h.2.2 s hs
theorem N3{p:EZ}(h:DG p=true):(Dz p).length≤47380:=by
 simp only[DG,Aq,Av] at h;have h1:=(AZ p.epoch.toNat).1;have h2:=(AZ p.stripes.length).1;have h3:=PS CY p.stripes 740 fun x hx=>ND (JY _ _ h.2.2 x hx);unfold Dz Cq;simp only[Ag];omega
theorem Ry(s:Jj):(Dy s).length≤30:=by
 have h1:=(AZ s.epoch.toNat).1;have h2:=(AZ s.node.toNat).1;have h3:=(AZ s.tail.toNat).1;unfold Dy;simp only[Ag];omega
theorem GB(h:Bool)(b:List UInt8)(n:Nat)(hb:h=true→b.length≤n):(AQ h b).length≤n:=by
 cases h
 ·exact Am _
 ·exact hb rfl
theorem MI(pos:Int)(l:List BH)(hR:CH pos l=true):(Ci pos l).length≤830:=by
 have h1:=Lj pos l hR;simp only[CH,Aq,Av] at hR;have h2:=(AZ l.length).1;unfold Ci;rw[Ag];omega
theorem ER{r z:Bool}(hw:Bv h r z=true)(hh:h=true):r=true:=by subst hh;exact hw
structure Acp(m:Msg):Prop where
 kind:1≤m.kind∧m.kind≤14
 pos:AE m.kind 1=true→poR m.pos=true
 count:AE m.kind 2=true→1≤m.count∧m.count≤65536
 state:AE m.kind 4=true→1≤m.state∧m.state≤Em m.kind
 streams:AE m.kind 8=true→m.streams.length≤16∧Bj m.streams=true
 links:AE m.kind 16=true→CH m.pos m.links=true
 seal_:AE m.kind 64=true→FP m.sea=true
 proj:AE m.kind 128=true→DG m.proj=true
 data:m.data.length≤1048576
theorem EB{m:Msg}(h:Gl m=true):Acp m:=by
 simp only[Gl,Aq,Av] at h;obtain⟨h1,h2,h3,h4,h5,h6,h7,h8,h9⟩:=h;refine⟨h1,fun e=>ER h2 e,fun e=>Bc (ER h3 e),fun e=>Bc (ER h4 e),fun e=> ?_,fun e=>ER h6 e,fun e=>ER h7 e,fun e=>ER h8 e,?_⟩
 ·have:=ER h5 e
  simp only[Aq,Av] at this;exact this
 ·simp only[Dh,Aq,Av] at h9
  omega
theorem IF{m:Msg}(h:Gl m=true):(D4 m).length≤49000+m.data.length:=by
 have H:=EB h;have h1:=GB (AE m.kind 1) (Az m.pos.toNat) 10 fun _=>(AZ _).1;have h2:=GB (AE m.kind 2) (Az m.count.toNat) 10 fun _=>(AZ _).1;have h3:=GB (AE m.kind 4) [UInt8.ofNat m.state.toNat] 1 fun _=>by simp
 have h4:=GB (AE m.kind 8) (Dw m.streams) 170 fun e=>by have:=NK m.streams;have:=(H.streams e).1;omega
 have h5:=GB (AE m.kind 16) (Ci m.pos m.links) 830 fun e=>MI _ _ (H.links e);have h6:=GB (Bw m.kind m.state) (Bk m.data) (11+m.data.length) fun e=>by have:=KM m.data;have:=(AZ m.data.length).1;omega
 have h7:=GB (AE m.kind 64) (Dy m.sea) 30 fun e=>Ry _;have h8:=GB (AE m.kind 128) (Dz m.proj) 47380 fun e=>N3 (H.proj e);unfold D4;simp only[Ag];omega
theorem Ns(h:n<128):byteCells (Az n)=[.int .u8 (n:Int)]:=by
 rw[Gd h];simp[byteCells];omega
theorem Ub(pos:Int)(l:List BH):∃Z:List (List UInt8),Ix pos none l=Z.flatten∧Z.length=l.length∧(∀k,(Z.take k).flatten.length≤Z.flatten.length)∧∀(k:Nat) (h:k<l.length),(Z.take (k+1)).flatten=(Z.take k).flatten++(Az ((Fy none l)[k]'zAp).toNat++Dp pos l[k].backs):=by
 refine⟨Ii pos none l,Jc pos l none,JU pos none l,fun k=>Lo _ k,fun k h=> ?_⟩;have:=PT (Ii pos none l) k (by rw[JU];exact h);rw[PJ pos l k h] at this;exact this
theorem RE(w:World)(pos:Int)(hpos:0≤pos∧pos≤18446744073709551615)(l:List BH)(al:Option Addr)(nl cl:Nat)(hl:Cm.r (·<w.heap.size) w [.slice al nl cl] l)(hR:CH pos l=true)(hbk:∀x∈l,x.backs.length≤1000000):
  Calls Tryz.prog 182 #[.int .u64 pos,.slice al nl cl] w fun r w'=>∃v,r=.returned v∧BD w' w.heap.size v (Ci pos l)∧Below w.heap.size w w':=by
 obtain⟨rfl,hm,_,_⟩:=AT hl;obtain⟨i0,hi,hz0,hz1,hz2⟩:=A3 DH;have hN:=Lh hl;have hR':=hR;simp only[CH,Aq,Av,Na] at hR';have hlk:∀x∈l,CI pos x.backs=true:=fun x hx=>by have:=hR'.2.2 x hx;simp only[Ec,Aq] at this;exact this.2
 have HLK:=hid hlk;have HBK:=hid hbk;have hup:=hid (Mo l hR'.2.1 (fun x hx=>(hN x hx).1));have hul:=Jt none l;have hle:=Lj pos l hR;have HL:=hid hl;have hvl:=DO (x:=l.length) zD;have HVC:=hid (Ns (n:=l.length) zD);have HU:=hid (fun (k:Nat) (h:k<l.length)=>KT l none k h);have HRI:=hid (fun (k:Nat) (h:k+1<l.length)=>(by have:=Hi (l.map BH.stream) k zAe hR'.2.1;simpa using this:l[k].stream<l[k+1].stream));obtain⟨Z,hZ,hzl,hmo0,hns0⟩:=Ub pos l;have HMO:=hid hmo0;have HNS:=hid hns0;rw[hZ] at hle;unfold Ci;rw[hZ];have hll:l.length≤16:=hR'.1;generalize Az l.length=VL at*;clear hl hR hR' hlk hbk hN hZ hmo0 hns0;go_enter Tryz.func182,Tryz.ntmps182;go_wp2_with fail;have HOS:Hid ((w.alloc (.cells #[.int .u8 (l.length:Int)] 5)).ownsRow w.heap.size 5 1 (.slice (some ⟨w.heap.size,0,none⟩) VL.length 1) VL.length (byteCells VL)):=hid (by rw[HVC.out,hvl];exact GF (An _) (F0 w _));have hb0:Below w.heap.size w (w.alloc (.cells #[.int .u8 (l.length:Int)] 5)):=zA;go_loopw [5,6] (fun v i wr=>∃(k:Nat) (J:List UInt8),k≤l.length∧i=.int .i64 k∧BD wr w.heap.size v J∧Hid (J=VL++(Z.take k).flatten)∧(∃aJ cJ,v=.slice aJ J.length cJ)∧Below w.heap.size w wr) (fun _ i _=>l.length-(intOf i).toNat)
 case atStart=>exact ⟨0,VL,Am _,rfl,by rw[hvl] at HOS;exact (by unfold BD;rw[hvl];exact HOS.out),hid zN,⟨_,_,by rw[hvl]⟩,hb0⟩
 case round=>
  obtain⟨k,J,hk,rfl,hown,hJ,⟨aJ,cJ,rfl⟩,hb⟩:=hrel;rcases Bh k l.length with hlt | hge
  ·obtain⟨b,o,hA,hbb,a2,c2,u0,u1,hx,xl⟩:=EK HL.out hlt
   subst hA;have hst:=HNS.out k hlt;have hmo:=HMO.out (k+1);have hub:=hup.out k hlt;have hu:=HU.out k hlt;rw[hst,Ag,Ag] at hmo;have hJl:J.length+(Az ((Fy none l)[k]'zD).toNat).length+(Dp pos l[k].backs).length≤20000000:=zBl;have hN0:∀W:World,Calls Tryz.prog 101 #[.int .u64 ((Fy none l)[k]'zD)] W fun r w'=>∃v,r=.returned v∧w'.ownsRow W.heap.size 5 1 v (Az ((Fy none l)[k]'zD).toNat).length (byteCells (Az ((Fy none l)[k]'zD).toNat))∧Below W.heap.size W w':=fun W=>by
    have:=FH ((Fy none l)[k]'zD).toNat zD W;rw[toNat_cast hub.1] at this;exact this
   have hJ1:(J++Az ((Fy none l)[k]'zD).toNat)++Dp pos l[k].backs=VL++(Z.take (k+1)).flatten:=zCx;have HBY:=hid (fun (W:World) (hW:Below w.heap.size w W)=>RG W pos hpos l[k].backs a2 _ c2 (lift xl hW) (HLK.out l[k] (Bi hlt)) (HBK.out l[k] (Bi hlt)));have HO:=hid hown;have i1:(k:Int)<(l.length:Int):=zD;have d1:decide ((k:Int)<(l.length:Int))=true:=Ad i1;have X0:=(hb.cell (p:=⟨b,o+k*2,none⟩) hbb).trans u0;have X1:=(hb.cell (p:=⟨b,o+k*2+1,none⟩) hbb).trans u1;rcases Cf k with rfl | hk0
   ·rw[dif_pos rfl] at hu
    (try dsimp only at hu)
    rw[hu] at hJl hJ1;have hN1:=fun W=>hu ▸ hN0 W;simp only[Nat.zero_mul,Cu,A1] at X0 X1 u1;have HN:=hid hN1;have HJ1:=hid hJ1;generalize Az l[0].stream.toNat=VK at*;generalize Dp pos l[0].backs=DK at*;have HONE:=hid (AI VK);have HOND:=hid (AI DK);generalize l[0]=y at*;clear hst hmo hub hu hJ1 hN0 hN1 hown hJ u0 xl;go_wp2_with fail;refine (HN.out _).mono ?_;rintro r w3 ⟨v3,rfl,hv3,hb3⟩;obtain⟨a3,c3,rfl⟩:=AD hv3;have HS3:=hid (A8 (BM rfl hv3));have HO3:=hid (AF HO.out hb3);have hz:=hb.size;have hz3:=hb3.size;clear hv3;go_wp2_with (at_builtin;go_loud (refine Ar rfl _ _ _ rfl w.heap.size 5 i0 (.int .u8 0) 1 1 Au hi hz0 hz1 hz2 rfl zO (.slice aJ J.length cJ) J.length (byteCells J) rfl HO3.out a3 VK.length c3 (byteCells VK) rfl HS3.out HONE.out zK zD zD ?_;intro v' w4 hown4 hgrow4 hat4;obtain⟨a4,c4,rfl⟩:=AD hown4;have HO4:=hid (BD.app hown4);have hbg4:Below w.heap.size w3 w4:=(Below.grown (Below.refl _ _) hgrow4 zD (fun g e=>(HO3.out.lt g e).1));have hb4:Below w.heap.size w w4:=hb.trans ((hb3.mono hb.size).trans hbg4);have Y1:w4.cell? ⟨b,o+1,none⟩=some (.slice a2 y.backs.length c2):=(hb4.cell (p:=⟨b,o+1,none⟩) hbb).trans u1;clear hown4 hgrow4 hat4))
    have hz4:=hbg4.size;have HB4:=hid (HBY.out w4 hb4);have hlJ:(J++VK).length=J.length+VK.length:=Ag;generalize J++VK=J4 at*;have HOB4:=hid HO4.out;rw[←hlJ] at HOB4 ⊢;have hJ4l:J4.length+DK.length≤20000000:=zD;clear hlJ;clear X0 X1;refine HB4.out.mono ?_;rintro r w5 ⟨v5,rfl,hv5,hb5⟩;obtain⟨a5,c5,rfl⟩:=AD hv5;have HS5:=hid (A8 (BM rfl hv5));have HO5:=hid (AF HOB4.out hb5);have hz5:=hb5.size;clear hv5 Y1;go_wp2_with (at_builtin;go_loud (refine Ar rfl _ _ _ rfl w.heap.size 5 i0 (.int .u8 0) 1 1 Au hi hz0 hz1 hz2 rfl zO (.slice a4 J4.length c4) J4.length (byteCells J4) rfl HO5.out a5 DK.length c5 (byteCells DK) rfl HS5.out HOND.out zK zD zD ?_;intro v' w6 hown6 hgrow6 hat6;obtain⟨a6,c6,rfl⟩:=AD hown6;have HO6:=hid (BD.app hown6);have hbg6:Below w.heap.size w5 w6:=(Below.grown (Below.refl _ _) hgrow6 zD (fun g e=>(HO5.out.lt g e).1));clear hown6 hgrow6 hat6))
    have hbe:Below w.heap.size w w6:=hb4.trans ((hb5.mono hb4.size).trans hbg6);go_roundw
    case rel=>exact ⟨1,J4++DK,zD,zV,HO6.out,HJ1,⟨_,_,ZB⟩,hbe⟩
    case measure=>simp [intOf];omega
   ·obtain⟨m,rfl⟩:∃m,k=m+1:=⟨k-1,zD⟩
    obtain⟨b',o',hA',hbb',a3',c3',t0,t1,hty,tl⟩:=EK HL.out (show m<l.length by omega);simp only[Bd,CZ] at hA';obtain⟨rfl,rfl,_⟩:=hA';have T0:=(hb.cell (p:=⟨b,o+m*2,none⟩) hbb).trans t0;have hri:=HRI.out m hlt;rw[dif_neg zD] at hu;simp only[Ft] at hu;rw[hu] at hJl hJ1;have hN1:=fun W=>hu ▸ hN0 W;have HN:=hid hN1;have HJ1:=hid hJ1;have i1':(m:Int)+1<(l.length:Int):=zD;have i2:(m:Int)<(l.length:Int):=zD;have d2:decide ((m:Int)+1<(l.length:Int))=true:=Ad i1';have d3:decide (m+1<l.length)=true:=Ad hlt;generalize Az (l[m+1].stream-(l[m]'zD).stream-1).toNat=VK at*;generalize Dp pos l[m+1].backs=DK at*;have HONE:=hid (AI VK);have HOND:=hid (AI DK);generalize l[m+1]=y at*;generalize l[m]'zD=z at*;have w1:0≤y.stream-z.stream:=zD;have w2:0≤y.stream-z.stream-1:=zD;clear hst hmo hub hu hJ1 hN0 hN1 hown hJ u0 xl t0 t1 tl;go_wp2_with fail;refine (HN.out _).mono ?_;rintro r w3 ⟨v3,rfl,hv3,hb3⟩;obtain⟨a3,c3,rfl⟩:=AD hv3;have HS3:=hid (A8 (BM rfl hv3));have HO3:=hid (AF HO.out hb3);have hz:=hb.size;have hz3:=hb3.size;clear hv3;go_wp2_with (at_builtin;go_loud (refine Ar rfl _ _ _ rfl w.heap.size 5 i0 (.int .u8 0) 1 1 Au hi hz0 hz1 hz2 rfl zO (.slice aJ J.length cJ) J.length (byteCells J) rfl HO3.out a3 VK.length c3 (byteCells VK) rfl HS3.out HONE.out zK zD zD ?_;intro v' w4 hown4 hgrow4 hat4;obtain⟨a4,c4,rfl⟩:=AD hown4;have HO4:=hid (BD.app hown4);have hbg4:Below w.heap.size w3 w4:=(Below.grown (Below.refl _ _) hgrow4 zD (fun g e=>(HO3.out.lt g e).1));have hb4:Below w.heap.size w w4:=hb.trans ((hb3.mono hb.size).trans hbg4);have Y1:w4.cell? ⟨b,o+(m+1)*2+1,none⟩=some (.slice a2 y.backs.length c2):=(hb4.cell (p:=⟨b,o+(m+1)*2+1,none⟩) hbb).trans u1;clear hown4 hgrow4 hat4))
    have hz4:=hbg4.size;have HB4:=hid (HBY.out w4 hb4);have hlJ:(J++VK).length=J.length+VK.length:=Ag;generalize J++VK=J4 at*;have HOB4:=hid HO4.out;rw[←hlJ] at HOB4 ⊢;have hJ4l:J4.length+DK.length≤20000000:=zD;clear hlJ;clear X0 X1 T0;refine HB4.out.mono ?_;rintro r w5 ⟨v5,rfl,hv5,hb5⟩;obtain⟨a5,c5,rfl⟩:=AD hv5;have HS5:=hid (A8 (BM rfl hv5));have HO5:=hid (AF HOB4.out hb5);have hz5:=hb5.size;clear hv5 Y1;go_wp2_with (at_builtin;go_loud (refine Ar rfl _ _ _ rfl w.heap.size 5 i0 (.int .u8 0) 1 1 Au hi hz0 hz1 hz2 rfl zO (.slice a4 J4.length c4) J4.length (byteCells J4) rfl HO5.out a5 DK.length c5 (byteCells DK) rfl HS5.out HOND.out zK zD zD ?_;intro v' w6 hown6 hgrow6 hat6;obtain⟨a6,c6,rfl⟩:=AD hown6;have HO6:=hid (BD.app hown6);have hbg6:Below w.heap.size w5 w6:=(Below.grown (Below.refl _ _) hgrow6 zD (fun g e=>(HO5.out.lt g e).1));clear hown6 hgrow6 hat6))
    have hbe:Below w.heap.size w w6:=hb4.trans ((hb5.mono hb4.size).trans hbg6);go_roundw
    case rel=>exact ⟨m+1+1,J4++DK,zD,zV,HO6.out,HJ1,⟨_,_,ZB⟩,hbe⟩
    case measure=>simp [intOf];omega
  ·obtain rfl:k=l.length:=by omega
   have d1:decide ((l.length:Int)<(l.length:Int))=false:=Ae zD;have hfin:Hid (J=VL++Z.flatten):=hid zB3;have HO:=hid hown;clear hown hJ;go_wp2;go_ret;rw[←hfin.out];exact⟨_,rfl,HO.out,hb⟩
theorem LB(l:List Int)(a:Option Addr)(n c:Nat)(w:World)(hl:Bb.r (·<w.heap.size) w [.slice a n c] l):
  Calls Tryz.prog 340 #[.slice a n c] w fun r w'=>r=.returned (.bool (Bj l))∧Below w.heap.size w w':=by
 obtain⟨rfl,hm,_,_⟩:=AT hl;have HL:=hid hl;clear hl;go_enter Tryz.func340,Tryz.ntmps340;go_wp2;go_loopw [3] (fun i wr=>∃m:Nat,(m≤l.length∧(m=0∨m<l.length))∧i=.int .i64 ((m:Int)+1)∧Hid (Bj l=Fc l (m+1))∧Below w.heap.size w wr) (fun i _=>l.length+1-(intOf i).toNat)
 case atStart=>exact ⟨0,⟨Am _,.inl rfl⟩,rfl,hid (Mx l).symm,Below.refl _ _⟩
 case round=>
  obtain⟨m,hk,rfl,hf,hb⟩:=hrel;by_cases hlt:m+1<l.length
  ·obtain⟨b,o,hA,hbb,x0,hx0,hx1⟩:=Dv (lift HL.out hb) hlt
   obtain⟨b',o',hA',hbb',y0,hy0,hy1⟩:=Dv (lift HL.out hb) (show m<l.length by omega);subst hA;simp only[Bd,CZ] at hA';obtain⟨rfl,rfl,_⟩:=hA';have hst:=hid (K2 l m hlt);have k1:(0:Int)≤(m:Int)+1-1:=zD;have k2:(m:Int)+1<(l.length:Int):=zD;have k3:(m:Int)<(l.length:Int):=zD;have X0:=fun s:AX wr=>s.cell x0;have Y0:=fun s:AX wr=>s.cell y0;clear x0 y0;generalize l[m+1]=x at*;generalize l[m]=y at*;by_cases hge:x≤y
   ·have d1:decide (x≤y)=true:=Ad hge
    have hff:Hid (Bj l=false):=hid (by rw[hf.out,hst.out,Ae (by omega)];rfl);clear hge;go_wp2_with fail;refine AR zI zI ?_;repeat (go_big_quiet_step (fail))
    refine Bm ?_;rintro W5 ⟨⟨W5',hb5⟩,rfl⟩;go_wp2;go_ret;exact⟨zM,Af hb5 hb⟩
   ·have d1:decide (x≤y)=false:=Ae hge
    have hst':Hid (Fc l (m+1)=Fc l (m+2)):=hid (by rw[hst.out,Ad (by omega)];rfl);clear hge;go_wp2_with fail;refine AR zI zI ?_;repeat (go_big_quiet_step (fail))
    refine Bm ?_;rintro W5 ⟨⟨W5',hb5⟩,rfl⟩;go_wp2;go_roundw
    case rel=>exact ⟨m+1,⟨zD,zD⟩,zV,hid zAu,Af hb5 hb⟩
    case measure=>(simp[intOf];try omega)
  ·have k2:¬((m:Int)+1<(l.length:Int)):=by omega
   have d2:decide ((m:Int)+1<(l.length:Int))=false:=Ae k2;have hff:Hid (Bj l=true):=hid (by
    rcases Cf l.length with h0 | h0
    ·rw[A2 h0];rfl
    ·rw[hf.out,show m+1=l.length by omega];exact My l)
   go_wp2;go_ret;exact⟨zM,hb⟩
theorem VH(w:World)(l:List Int)(al:Option Addr)(nl cl:Nat)(hl:Bb.r (·<w.heap.size) w [.slice al nl cl] l)(hri:Bj l=true)(hlen:l.length≤1000000):
  Calls Tryz.prog 343 #[.slice al nl cl] w fun r w'=>∃v,r=.returned v∧Bb.r (fun q=>w.heap.size≤q∧q<w'.heap.size) w' [v] (D9 none l)∧Below w.heap.size w w':=by
 obtain⟨rfl,hm,_,_⟩:=AT hl;obtain⟨i0,hi,hz0,hz1,hz2⟩:=A3 Ok;have HL:=hid hl;have hul:=Gu none l;have HU:=hid (fun (k:Nat) (h:k<l.length)=>KS l none k h);have HRI:=hid (fun (k:Nat) (h:k+1<l.length)=>Hi l k h hri);clear hl hri;go_enter Tryz.func343,Tryz.ntmps343;go_wp2_with fail;go_loopw [3,8] (fun v i wr=>∃k:Nat,k≤l.length∧i=.int .i64 k∧wr.ownsRow w.heap.size 36 1 v k (BS ((D9 none l).take k))∧Hid (∀x∈(D9 none l).take k,0≤x∧x≤18446744073709551615)∧Below w.heap.size w wr) (fun _ i _=>l.length-(intOf i).toNat)
 case atStart=>exact ⟨0,Am _,rfl,⟨rfl,.inl ⟨rfl,rfl⟩⟩,hid zN,Below.refl _ _⟩
 case round=>
  obtain⟨k,hk,rfl,hown,hbd,hb⟩:=hrel;obtain⟨av,cv,rfl⟩:=AD hown;rcases Bh k l.length with hlt | hge
  ·obtain⟨b,o,hA,hbb,x0,hx⟩:=Dv (lift HL.out hb) hlt
   subst hA;have hu:=HU.out k hlt;have i1:(k:Int)<(l.length:Int):=zD;have d1:decide ((k:Int)<(l.length:Int))=true:=Ad i1;have hbl:b<wr.heap.size:=CN _ _ x0;have htk:BS ((D9 none l).take (k+1))=BS ((D9 none l).take k)++[.int .u64 ((D9 none l)[k]'zD)]:=by
    rw[AW zD];unfold BS;rw[BX];rfl
   have hnb:∀y:Int,(D9 none l)[k]'zD=y→(0≤y∧y≤18446744073709551615)→∀x∈(D9 none l).take (k+1),0≤x∧x≤18446744073709551615:=fun y e hy x hx=>by
    rw[AW zD,EO,De] at hx;rcases hx with hx | rfl
    ·exact hbd.out x hx
    ·rw[e];exact hy
   have HTK:=hid htk;have HNB:=hid hnb;have HO:=hid hown;have hz:=hb.size;rcases Cf k with rfl | hk0
   ·rw[dif_pos rfl] at hu
    (try dsimp only at hu)
    rw[hu] at HTK;have HBD:=hid (HNB.out _ hu hx);simp only[Nat.zero_mul,Cu,A1] at x0;have d2:decide ((0:Int)<((0:Nat):Int))=false:=zO;generalize l[0]=y at*;clear hu htk hnb hbd hown hx;go_wp2_with (at_builtin;go_loud (refine Ar rfl _ _ _ rfl w.heap.size 36 i0 (.int .u64 0) 1 8 C7 hi hz0 hz1 hz2 rfl zO (.slice av 0 cv) 0 _ rfl (AF HO.out zA) (some ⟨wr.heap.size,0,none⟩) 1 1 [.int .u64 y] rfl (By _ 36 _ rfl zN rfl) ZO zK zD zH ?_;intro v' w3 hown3 hgrow3 hat3;obtain⟨a3,c3,rfl⟩:=AD hown3;have HO3:=hid hown3;have hb3:Below w.heap.size wr w3:=(Below.grown ((by (repeat (first | with_reducible exact Below.refl _ _ | with_reducible assumption | (with_reducible refine AH ?_ _) | (with_reducible refine Below.setCell ?_ zF _) | (with_reducible refine Below.drew ?_) | (with_reducible refine below_drewN ?_ _) | (refine Af zG ?_))):Below wr.heap.size wr _).mono hz) hgrow3 zH (fun g e=>(HO.out.lt g e).1));clear hown3 hgrow3 hat3))
    have ho3:=HO3.out;rw[←HTK.out] at ho3;have HO4:=hid ho3;clear ho3 x0;go_roundw
    case rel=>exact ⟨1,zD,zV,by simpa using HO4.out,HBD,hb.trans hb3⟩
    case measure=>(simp[intOf];try omega)
   ·obtain⟨m,rfl⟩:∃m,k=m+1:=⟨k-1,zD⟩
    obtain⟨b',o',hA',hbb',y0,hy⟩:=Dv (lift HL.out hb) (show m<l.length by omega);simp only[Bd,CZ] at hA';obtain⟨rfl,rfl,_⟩:=hA';have hri:=HRI.out m hlt;rw[dif_neg zD] at hu;simp only[Ft] at hu;rw[hu] at HTK;have HBD:=hid (HNB.out _ hu zD);have i1':(m:Int)+1<(l.length:Int):=zD;have i2:(m:Int)<(l.length:Int):=zD;have d2:decide ((m:Int)+1<(l.length:Int))=true:=Ad i1';have d3:decide (m+1<l.length)=true:=Ad hlt;have d4:decide ((0:Int)<(m:Int)+1)=true:=Ad zD;generalize l[m+1]=y at*;generalize l[m]'zD=z at*;have w1:0≤y-(z+1):=zD;have w2:z+1≤18446744073709551615:=zD;rw[show y-z-1=y-(z+1) by omega] at HTK;clear hu htk hnb hbd hown;go_wp2_with (at_builtin;go_loud (refine Ar rfl _ _ _ rfl w.heap.size 36 i0 (.int .u64 0) 1 8 C7 hi hz0 hz1 hz2 rfl zO (.slice av (m+1) cv) (m+1) _ rfl (AF HO.out zA) (some ⟨wr.heap.size,0,none⟩) 1 1 [.int .u64 (y-(z+1))] rfl (By _ 36 _ rfl zN rfl) ZO zK zD zH ?_;intro v' w3 hown3 hgrow3 hat3;obtain⟨a3,c3,rfl⟩:=AD hown3;have HO3:=hid hown3;have hb3:Below w.heap.size wr w3:=(Below.grown ((by (repeat (first | with_reducible exact Below.refl _ _ | with_reducible assumption | (with_reducible refine AH ?_ _) | (with_reducible refine Below.setCell ?_ zF _) | (with_reducible refine Below.drew ?_) | (with_reducible refine below_drewN ?_ _) | (refine Af zG ?_))):Below wr.heap.size wr _).mono hz) hgrow3 zH (fun g e=>(HO.out.lt g e).1));clear hown3 hgrow3 hat3))
    have ho3:=HO3.out;rw[←HTK.out] at ho3;have HO4:=hid ho3;clear ho3 x0 y0;go_roundw
    case rel=>exact ⟨m+1+1,zD,zV,HO4.out,HBD,hb.trans hb3⟩
    case measure=>(simp[intOf];try omega)
  ·obtain rfl:k=l.length:=by omega
   have d1:decide ((l.length:Int)<(l.length:Int))=false:=Ae zD;have hv:=hown;rw[CF zD] at hv hbd;have HV:=hid (FA hbd.out zD hv);clear hv hown;go_wp2;go_ret;exact⟨_,rfl,HV.out,hb⟩
theorem Rl(l:List Int)(hri:Bj l=true)(hx:∀x∈l,0≤x∧x≤18446744073709551615):∀k,(h:k<l.length)→0≤(D9 none l)[k]'(by rw[Gu];exact h)∧(D9 none l)[k]'(by rw[Gu];exact h)≤18446744073709551615:=by
 intro k h;rw[KS l none k h];have hk:=hx l[k] (Bi h);split
 ·exact hk
 ·rename_i h0
  have h1:=hx (l[k-1]'zD) (Bi _);have h2:=Hi l (k-1) zD hri;simp only[Nat.sub_add_cancel (show 1≤k by omega)] at h2;omega
theorem Ka(w:World){g base most:Nat}{J:List UInt8}{a:Option Addr}(h:BQ w g base most J a c)(l:List Int)(al:Option Addr)(nl cl:Nat)
 (hl:Bb.r (·<w.heap.size) w [.slice al nl cl] l) (hri:Bj l=true) (hlen:l.length≤1000000) (hfit:J.length+(GO l).length≤most) (hln2:J.length+(GO l).length≤100000000000000):
  Calls Tryz.prog 298 #[.pointer (some ⟨g,0,none⟩),.slice al nl cl] w fun r w'=>r=.returned (.tuple #[])∧At w g base most (J++GO l) a w':=by
 obtain⟨rfl,hm,_,_⟩:=AT hl;have HRI:=LB l al _ cl w hl;rw[hri] at HRI;have HRI:=hid HRI;have HS:=hid (fun (W:World) (hW:Below w.heap.size w W)=>VH W l al _ cl (lift hl hW) hri hlen);have hlt:=h.len;have hsl:=Gu none l;have hnb:=Hc (D9 none l);have hxs:=Ew hl;unfold GO at*;have HP:=hid h;have HMO:=hid (fun k=>Fo (D9 none l) k);have HNS:=hid (fun (k:Nat) (h:k<(D9 none l).length)=>Hr (D9 none l) k h);generalize D9 none l=T at*;generalize hL:l.length=L at*;have hLL:=hid hL;clear h hl hri hxs hL;go_enter Tryz.func298,Tryz.ntmps298;go_wp2_with fail;refine HRI.out.mono ?_;rintro r w0 ⟨rfl,hb0⟩;go_wp2_with fail;refine (HS.out _ hb0).mono ?_;rintro r w1 ⟨v,rfl,hr,hb1'⟩;obtain⟨a1,c1,hv,hr2,_⟩:=AN hr;simp only[As,AM] at hv;subst hv;have hb1:=Af hb1' hb0;have hz0:=hb0.size;rw[hsl] at hr2 ⊢;have HR:=hid (I0 HP.out (Bb.mono hr2 fun q hq=>⟨zD,hq.2⟩));have HP1:=hid (HP.out.later hb1);clear hr hr2;have hz1:=hb1.size;go_wp2_with fail;go_loopw [14] (fun i wr=>∃k:Nat,k≤L∧i=.int .i64 k∧Hid (At w1 g base most (J++CG (T.take k)) a wr)) (fun i _=>L-(intOf i).toNat)
 case atStart=>exact ⟨0,Am _,rfl,hid (by simpa [CG] using At.refl HP1.out)⟩
 case round=>
  obtain⟨k,hk,rfl,hp⟩:=hrel;obtain⟨a3,c3,hp3,ht3,ha3⟩:=hp.out;rcases Bh k L with hlt | hge
  ·have hd3:=DQ ht3 ha3 HR.out
   have hkT:k<T.length:=zD;obtain⟨b,o,hA,hbb,hc,hx0,hx1⟩:=Dv hd3 hkT;subst hA;have hst:=HNS.out k hkT;have hfk:=HMO.out (k+1);rw[hst,Ag] at hfk;have HSK:=hid hst;have hvk:=(AZ T[k].toNat).1;have hJ3:=hp3.len;simp only[Ag] at hJ3;have hV:=Cl wr hp3 T[k].toNat zD zT zT;rw[toNat_cast hx0,Ao J,←hst] at hV;have HV3:=hid hV;have HT3:=hid (And.intro ht3 ha3);have i1:(k:Int)<(L:Int):=zD;have d1:decide ((k:Int)<(L:Int))=true:=Ad i1;clear hV hd3 hst hp3 ht3 ha3 hp hfk hvk hJ3;generalize T[k]=y at*;go_wp2_with fail;refine HV3.out.mono ?_;rintro r w5 ⟨rfl,hst5⟩;have HN:=hid (At.trans (J:=J) HT3.out.1 HT3.out.2 hst5);clear hst5;go_wp2;go_roundw
   case rel=>exact ⟨k+1,zD,zV,HN⟩
   case measure=>simp [intOf];omega
  ·obtain rfl:k=L:=by omega
   have d1:decide ((k:Int)<(k:Int))=false:=Ae zD;rw[CF zD] at hp;have HN:=hid (At.later hb1 hp.out);clear hp hp3 ht3 ha3;go_wp2;first | go_end0 | refine Al (Ax rfl _ _ _) rfl ?_
   exact⟨rfl,HN.out⟩
theorem NN(s:Jj)(h0:inU s.epoch)(w:World):Calls Tryz.prog 289 #[.agg #[.int .u64 s.epoch,.int .u64 s.node,.int .u64 s.tail]] w fun r w'=>r=.returned (.bool (FP s))∧Below w.heap.size w w':=by
 have HE:=hid (fun (W:World)=>GK s.epoch W);have hsr:FP s=(epR s.epoch&&(decide (s.node≤4294967295)&&decide (s.tail≤4611686018427387904))):=rfl;obtain⟨e,n,t⟩:=s;dsimp only at*;generalize epR e=E at*;have HS:=hid hsr;generalize FP ⟨e,n,t⟩=ss at*;clear hsr h0;cases E
 ·have hf:Hid (ss=false):=hid (by rw[HS.out];rfl)
  go_enter Tryz.func289,Tryz.ntmps289;go_wp2_with fail;refine (HE.out _).mono ?_;rintro r w1 ⟨rfl,rfl⟩;go_wp2_with fail;go_ret;exact⟨zBv,zB⟩
 ·by_cases hn:n≤4294967295
  ·have hf:Hid (ss=decide (t≤4611686018427387904)):=hid (by rw[HS.out,Ad hn];rfl)
   have d1:decide (n≤4294967295)=true:=Ad hn;clear hn;go_enter Tryz.func289,Tryz.ntmps289;go_wp2_with fail;refine (HE.out _).mono ?_;rintro r w1 ⟨rfl,rfl⟩;go_wp2_with fail;go_ret;exact⟨zBv,zB⟩
  ·have hf:Hid (ss=false):=hid (by rw[HS.out,Ae hn];rfl)
   have d1:decide (n≤4294967295)=false:=Ae hn;clear hn;go_enter Tryz.func289,Tryz.ntmps289;go_wp2_with fail;refine (HE.out _).mono ?_;rintro r w1 ⟨rfl,rfl⟩;go_wp2_with fail;go_ret;exact⟨zBv,zB⟩
theorem Yq{l:List Int}{cs:Array Value}(hcs:cs=(BS l).toArray)(hS:S g)(hl:l.length≤1000000)(hx:∀x∈l,inU x)(hb:Blk w g t cs):Bb.r S w [.slice (some ⟨g,0,none⟩) l.length l.length] l:=by
 subst hcs;refine Bt (xs:=l) rfl (An _) (by simp[maxLen];omega) (.inr ⟨g,0,rfl,hS,fun i x hi=>⟨[.int .u64 x],rfl,fun j v hj=> ?_,rfl,Fj (hx x (List.mem_of_getElem? hi))⟩⟩);have hj0:j=0:=by
  rcases j with _ | j
  ·rfl
  ·simp at hj
 subst hj0;simp at hj;subst hj;rw[A1,Fi,Cu];rw[hb.cell i];simp[BS,hi]
theorem Tt(s:Jj):Dy s=CG [s.epoch,s.node,s.tail]:=by simp[Dy,CG]
theorem NO(w:World){g base most:Nat}{J:List UInt8}{a:Option Addr}(h:BQ w g base most J a c)(s:Jj)(h0:inU s.epoch)(h1:inU s.node)(h2:inU s.tail)(hR:FP s=true)
 (hfit:J.length+(Dy s).length≤most) (hln2:J.length+(Dy s).length≤100000000000000):
  Calls Tryz.prog 302 #[.pointer (some ⟨g,0,none⟩),.agg #[.int .u64 s.epoch,.int .u64 s.node,.int .u64 s.tail]] w fun r w'=>r=.returned (.tuple #[])∧At w g base most (J++Dy s) a w':=by
 have HSR:=hid (fun (W:World)=>NN s h0 W);rw[hR] at HSR;rw[Tt] at hfit hln2 ⊢;have hlt:=h.len;have HP:=hid h;have hLI:∀(W:World) (b:Nat) (hb:Blk W b 36 #[.int .u64 s.epoch,.int .u64 s.node,.int .u64 s.tail]) (S:Nat→Prop) (hS:S b),Bb.r S W [.slice (some ⟨b,0,none⟩) 3 3] [s.epoch,s.node,s.tail]:=fun W b hb S hS=>
  Yq (l:=[s.epoch,s.node,s.tail]) rfl hS zN (by simp[h0,h1,h2]) hb
 have HLI:=hid hLI;have hT3:[s.epoch,s.node,s.tail].length=3:=rfl;generalize hTT:[s.epoch,s.node,s.tail]=T at*;have HMO:=hid (fun k=>Fo T k);have HNS:=hid (fun (k:Nat) (h:k<T.length)=>Hr T k h);obtain⟨e,n,t⟩:=s;dsimp only at*;clear h hR hLI hTT h0 h1 h2;go_enter Tryz.func302,Tryz.ntmps302;go_wp2_with fail;refine (HSR.out _).mono ?_;rintro r w1 ⟨rfl,hb1⟩;have x0:=hb1.cell (p:=⟨w.heap.size,0,none⟩) zN;have x1:=hb1.cell (p:=⟨w.heap.size,1,none⟩) zN;have x2:=hb1.cell (p:=⟨w.heap.size,2,none⟩) zN;simp at x0 x1 x2;have hbw1:Hid (Below w.heap.size w w1):=hid (Af hb1 zB);clear hb1;go_wp2_with fail;have HB2:=hid (hbw1.out.alloc hbw1.out.size (.cells #[.int .u64 e,.int .u64 n,.int .u64 t] 36));have HBL:Hid (Blk (w1.alloc (.cells #[.int .u64 e,.int .u64 n,.int .u64 t] 36)) w1.heap.size 36 #[.int .u64 e,.int .u64 n,.int .u64 t]):=hid (Blk.new _ _ _);have hs2:w1.heap.size<(w1.alloc (.cells #[.int .u64 e,.int .u64 n,.int .u64 t] 36)).heap.size:=zN;generalize w1.alloc (.cells #[.int .u64 e,.int .u64 n,.int .u64 t] 36)=w2 at*;have hsw:=hbw1.out.size;have HR:=hid (HLI.out w2 w1.heap.size HBL.out (fun q=>q<w2.heap.size∧¬Dr g a q) ⟨hs2,fun hf=>by have:=(HP.out.En hf).2;omega⟩);have HP1:=hid (HP.out.later HB2.out);have HLW:=hid HB2.out;clear x0 x1 x2;go_loopw [19] (fun i wr=>∃k:Nat,k≤3∧i=.int .i64 k∧Hid (At w2 g base most (J++CG (T.take k)) a wr)) (fun i _=>3-(intOf i).toNat)
 case atStart=>exact ⟨0,Am _,rfl,hid (by simpa [CG] using At.refl HP1.out)⟩
 case round=>
  obtain⟨k,hk,rfl,hp⟩:=hrel;obtain⟨a3,c3,hp3,ht3,ha3⟩:=hp.out;rcases Bh k 3 with hlt | hge
  ·have hd3:=DQ ht3 ha3 HR.out
   have hkT:k<T.length:=zD;rw[show (3:Nat)=T.length from hT3.symm] at hd3;obtain⟨b,o,hA,hbb,hc,hx0,hx1⟩:=Dv hd3 hkT;simp only[Bd,CZ,AM] at hA;obtain⟨hA1,hA2⟩:=hA;subst hA1 hA2;have hst:=HNS.out k hkT;have hfk:=HMO.out (k+1);rw[hst,Ag] at hfk;have HSK:=hid hst;have hvk:=(AZ T[k].toNat).1;have hJ3:=hp3.len;simp only[Ag] at hJ3;have hV:=Cl wr hp3 T[k].toNat zD zT zT;rw[toNat_cast hx0,Ao J,←hst] at hV;have HV3:=hid hV;have HT3:=hid (And.intro ht3 ha3);have i1:(k:Int)<3:=zD;have d1:decide ((k:Int)<3)=true:=Ad i1;clear hV hd3 hst hp3 ht3 ha3 hp hfk hvk hJ3;generalize T[k]=y at*;simp only[A1] at hc;go_wp2_with fail;refine HV3.out.mono ?_;rintro r w5 ⟨rfl,hst5⟩;have HN:=hid (At.trans (J:=J) HT3.out.1 HT3.out.2 hst5);clear hst5;go_wp2;go_roundw
   case rel=>exact ⟨k+1,zD,zV,HN⟩
   case measure=>(simp[intOf];try omega)
  ·obtain rfl:k=3:=by omega
   rw[CF zD] at hp;have HN:=hid (At.later HLW.out hp.out);clear hp hp3 ht3 ha3;go_wp2;first | go_end0 | refine Al (Ax rfl _ _ _) rfl ?_
   exact⟨rfl,HN.out⟩
theorem GG{b b':Nat}{L:List UInt8}(h:BD w b v L)(hb:b'≤b):BD w b' v L:=by
 obtain⟨h1,h2⟩:=h;refine⟨h1,?_⟩;rcases h2 with h2 | ⟨g,cap,cur,e1,e2,e3⟩
 ·exact .inl h2
 ·exact .inr ⟨g,cap,cur,e1,A4 hb e2,e3⟩
theorem RJ(w:World)(s:Jj)(h0:inU s.epoch)(h1:inU s.node)(h2:inU s.tail):
  Calls Tryz.prog 185 #[.agg #[.int .u64 s.epoch,.int .u64 s.node,.int .u64 s.tail]] w fun r w'=>∃v,r=.returned v∧BD w' w.heap.size v (Dy s)∧Below w.heap.size w w':=by
 obtain⟨i0,hi,hz0,hz1,hz2⟩:=A3 DH;have HV:∀x:Int,inU x→∀W:World,Calls Tryz.prog 101 #[.int .u64 x] W fun r w'=>∃v,r=.returned v∧w'.ownsRow W.heap.size 5 1 v (Az x.toNat).length (byteCells (Az x.toNat))∧Below W.heap.size W w':=fun x hx W=>by
  have:=FH x.toNat (by have:=hx.2;omega) W;rw[toNat_cast hx.1] at this;exact this
 have HE:=hid (HV s.epoch h0);have HN:=hid (HV s.node h1);have HT:=hid (HV s.tail h2);have le:=(AZ s.epoch.toNat).1;have ln:=(AZ s.node.toNat).1;have lt:=(AZ s.tail.toNat).1;unfold Dy;generalize Az s.epoch.toNat=E at*;generalize Az s.node.toNat=N at*;generalize Az s.tail.toNat=T at*;have HOE:=hid (AI E);have HON:=hid (AI N);have HOT:=hid (AI T);obtain⟨e,n,t⟩:=s;dsimp only at*;clear HV h0 h1 h2;go_enter Tryz.func185,Tryz.ntmps185;go_wp2_with fail;refine (HE.out _).mono ?_;rintro r w1 ⟨v1,rfl,hv1,hb1⟩;obtain⟨a1,c1,rfl⟩:=AD hv1;have x1:=hb1.cell (p:=⟨w.heap.size,1,none⟩) zN;have x2:=hb1.cell (p:=⟨w.heap.size,2,none⟩) zN;simp at x1 x2;have hz1':w.heap.size<w1.heap.size:=by have:=hb1.size;simp at this;omega
 have hO1:BD w1 w.heap.size (.slice a1 E.length c1) E:=GG hv1 zN;have hO1b:=hv1;have HO1:=hid hv1;have hbw1:Hid (Below w.heap.size w w1):=hid (Af hb1 zB);clear hv1 hO1 hO1b hb1;go_wp2_with fail;refine (HN.out _).mono ?_;rintro r w2 ⟨v2,rfl,hv2,hb2⟩;obtain⟨a2,c2,rfl⟩:=AD hv2;have HS2:=hid (A8 (BM rfl hv2));have HO2:=hid (AF HO1.out hb2);have y2:=(hb2.cell (p:=⟨w.heap.size,2,none⟩) hz1').trans x2;have hz2':=hb2.size;have hbw2:=hid (Af hb2 hbw1.out);clear hv2 hb2 x1 x2;go_wp2_with (at_builtin;go_loud (refine Ar rfl _ _ _ rfl (w.heap.size+1) 5 i0 (.int .u8 0) 1 1 Au hi hz0 hz1 hz2 rfl zO (.slice a1 E.length c1) E.length (byteCells E) rfl (by simpa using HO2.out) a2 N.length c2 (byteCells N) rfl HS2.out HON.out zK zD zD ?_;intro v' w3 hown3 hgrow3 hat3;obtain⟨a3,c3,rfl⟩:=AD hown3;have HO3:=hid hown3;have HGR3:=hid hgrow3;have HA3:=hid hat3;have hb23:Below (w.heap.size+1) w2 w3:=Below.grown (Below.refl _ _) HGR3.out zD (fun g e=>(by have:=(HO2.out.lt g e).1;simpa using this));have z2:=(hb23.cell (p:=⟨w.heap.size,2,none⟩) zN).trans y2;clear hown3 hgrow3 hat3))
 have o3:=BD.app HO3.out;have HP3:=hid o3;have hz3':=hb23.size;have hbw3:=hid (hbw2.out.trans (hb23.mono zD));clear o3 hb23 y2;go_wp2_with fail;refine (HT.out _).mono ?_;rintro r w4 ⟨v4,rfl,hv4,hb4⟩;obtain⟨a4,c4,rfl⟩:=AD hv4;have HS4:=hid (A8 (BM rfl hv4));have HO4:=hid (AF HP3.out hb4);have hbw4:=hid (Af hb4 hbw3.out);have hz4':=hb4.size;clear hv4 hb4 z2;have hl3:(E++N).length=E.length+N.length:=ZB;have HO4':Hid (w4.ownsRow (w.heap.size+1) 5 1 (.slice a3 (E.length+N.length) c3) (E.length+N.length) (byteCells (E++N))):=hid (by have h:=HO4.out;unfold BD at h;rw[hl3] at h;exact h);clear HO4;go_wp2_with (at_builtin;go_loud (refine Ar rfl _ _ _ rfl (w.heap.size+1) 5 i0 (.int .u8 0) 1 1 Au hi hz0 hz1 hz2 rfl zO (.slice a3 (E.length+N.length) c3) (E.length+N.length) (byteCells (E++N)) rfl HO4'.out a4 T.length c4 (byteCells T) rfl HS4.out HOT.out zK zD zD ?_;intro v' w5 hown5 hgrow5 hat5;obtain⟨a5,c5,rfl⟩:=AD hown5;have HO5:=hid hown5;have HGR5:=hid hgrow5;have HA5:=hid hat5;clear hown5 hgrow5 hat5))
 have o5:BD w5 (w.heap.size+1) (.slice a5 (E.length+N.length+T.length) c5) (E++N++T):=by
  unfold BD;have h:=HO5.out;rw[Es] at h;rw[Ag,Ag];exact h
 have hb45:Below (w.heap.size+1) w4 w5:=Below.grown (Below.refl _ _) HGR5.out zD (fun g e=>(HO4'.out.lt g e).1);have HF:=hid (GG o5 (show w.heap.size≤w.heap.size+1 by omega));have HB:=hid (hbw4.out.trans (hb45.mono zD));clear o5 hb45;go_wp2_with fail;go_ret;exact⟨_,rfl,HF.out,HB.out⟩
theorem MC(w:World)(l:List Int)(al:Option Addr)(nl cl:Nat)(hl:Bb.r (·<w.heap.size) w [.slice al nl cl] l)(hri:Bj l=true)(hlen:l.length≤1000000):
  Calls Tryz.prog 181 #[.slice al nl cl] w fun r w'=>∃v,r=.returned v∧BD w' w.heap.size v (GO l)∧Below w.heap.size w w':=by
 obtain⟨rfl,hm,_,_⟩:=AT hl;obtain⟨i0,hi,hz0,hz1,hz2⟩:=A3 DH;have hul:=Gu none l;have hnb:=Hc (D9 none l);have hup:=hid (fun (k:Nat) (h:k<l.length)=>Rl l hri (Ew hl) k h);have HL:=hid hl;have HU:=hid (fun (k:Nat) (h:k<l.length)=>KS l none k h);have HRI:=hid (fun (k:Nat) (h:k+1<l.length)=>Hi l k h hri);have HMO:=hid (fun k=>Fo (D9 none l) k);have HNS:=hid (fun (k:Nat) (h:k<(D9 none l).length)=>Hr (D9 none l) k h);unfold GO;clear hl hri;go_enter Tryz.func181,Tryz.ntmps181;go_wp2_with fail;go_loopw [3,4] (fun v i wr=>∃(k:Nat) (J:List UInt8),k≤l.length∧i=.int .i64 k∧BD wr w.heap.size v J∧Hid (J=CG ((D9 none l).take k))∧(∃aJ cJ,v=.slice aJ J.length cJ)∧Below w.heap.size w wr) (fun _ i _=>l.length-(intOf i).toNat)
 case atStart=>exact ⟨0,[],Am _,rfl,⟨rfl,.inl ⟨rfl,rfl⟩⟩,hid (by simp[CG]),⟨_,_,rfl⟩,Below.refl _ _⟩
 case round=>
  obtain⟨k,J,hk,rfl,hown,hJ,⟨aJ,cJ,rfl⟩,hb⟩:=hrel;rcases Bh k l.length with hlt | hge
  ·obtain⟨b,o,hA,hbb,u0,hx⟩:=Dv HL.out hlt
   subst hA;have hst:=HNS.out k zD;have hmo:=HMO.out (k+1);have hub:=hup.out k hlt;have hu:=HU.out k hlt;rw[hst,Ag] at hmo;have hJl:J.length+(Az ((D9 none l)[k]'zD).toNat).length≤20000000:=by have:=GL List.length hJ.out;omega
   have hN0:∀W:World,Calls Tryz.prog 101 #[.int .u64 ((D9 none l)[k]'zD)] W fun r w'=>∃v,r=.returned v∧w'.ownsRow W.heap.size 5 1 v (Az ((D9 none l)[k]'zD).toNat).length (byteCells (Az ((D9 none l)[k]'zD).toNat))∧Below W.heap.size W w':=fun W=>by
    have:=FH ((D9 none l)[k]'zD).toNat zD W;rw[toNat_cast hub.1] at this;exact this
   have hJ1:J++Az ((D9 none l)[k]'zD).toNat=CG ((D9 none l).take (k+1)):=by rw[hst,hJ.out]
   have HO:=hid hown;have i1:(k:Int)<(l.length:Int):=zD;have d1:decide ((k:Int)<(l.length:Int))=true:=Ad i1;have X0:=(hb.cell (p:=⟨b,o+k,none⟩) hbb).trans u0;rcases Cf k with rfl | hk0
   ·rw[dif_pos rfl] at hu
    (try dsimp only at hu)
    rw[hu] at hJl hJ1;have hN1:=fun W=>hu ▸ hN0 W;simp only[Nat.zero_mul,Cu,A1] at X0;have HN:=hid hN1;have HJ1:=hid hJ1;generalize Az l[0].toNat=VK at*;have HONE:=hid (AI VK);generalize l[0]=y at*;clear hst hmo hub hu hJ1 hN0 hN1 hown hJ u0;go_wp2_with fail;refine (HN.out _).mono ?_;rintro r w3 ⟨v3,rfl,hv3,hb3⟩;obtain⟨a3,c3,rfl⟩:=AD hv3;have HS3:=hid (A8 (BM rfl hv3));have HO3:=hid (AF HO.out hb3);have hz:=hb.size;have hz3:=hb3.size;clear hv3;go_wp2_with (at_builtin;go_loud (refine Ar rfl _ _ _ rfl w.heap.size 5 i0 (.int .u8 0) 1 1 Au hi hz0 hz1 hz2 rfl zO (.slice aJ J.length cJ) J.length (byteCells J) rfl HO3.out a3 VK.length c3 (byteCells VK) rfl HS3.out HONE.out zK zD zD ?_;intro v' w4 hown4 hgrow4 hat4;obtain⟨a4,c4,rfl⟩:=AD hown4;have HO4:=hid (BD.app hown4);have hbg4:Below w.heap.size w3 w4:=(Below.grown (Below.refl _ _) hgrow4 zD (fun g e=>(HO3.out.lt g e).1));have hb4:Below w.heap.size w w4:=hb.trans ((hb3.mono hb.size).trans hbg4);clear hown4 hgrow4 hat4))
    go_roundw
    case rel=>exact ⟨1,J++VK,zD,zV,HO4.out,HJ1,⟨_,_,ZB⟩,hb4⟩
    case measure=>(simp[intOf];try omega)
   ·obtain⟨m,rfl⟩:∃m,k=m+1:=⟨k-1,zD⟩
    obtain⟨b',o',hA',hbb',t0,hty⟩:=Dv HL.out (show m<l.length by omega);simp only[Bd,CZ] at hA';obtain⟨rfl,rfl,_⟩:=hA';have T0:=(hb.cell (p:=⟨b,o+m,none⟩) hbb).trans t0;have hri:=HRI.out m hlt;rw[dif_neg zD] at hu;simp only[Ft] at hu;rw[hu] at hJl hJ1;have hN1:=fun W=>hu ▸ hN0 W;have HN:=hid hN1;have HJ1:=hid hJ1;have i1':(m:Int)+1<(l.length:Int):=zD;have i2:(m:Int)<(l.length:Int):=zD;have d2:decide ((m:Int)+1<(l.length:Int))=true:=Ad i1';have d3:decide (m+1<l.length)=true:=Ad hlt;have d4:((m:Int)+1==0)=false:=beq_eq_false_iff_ne.2 zD;generalize Az (l[m+1]-(l[m]'zD)-1).toNat=VK at*;have HONE:=hid (AI VK);generalize l[m+1]=y at*;generalize l[m]'zD=z at*;have w1:0≤y-z:=zD;have q0:(0:Int)≤(m:Int)+1:=zD;have q1:(0:Int)≤(m:Int)+1-1:=zD;have w2:0≤y-z-1:=zD;have hD:wr.drew.cell? ⟨b,o+(m+1),none⟩=some (.int .u64 y)∧wr.drew.cell? ⟨b,o+m,none⟩=some (.int .u64 z):=⟨X0,T0⟩;have hdz:wr.heap.size≤wr.drew.heap.size:=An _;have hbw:b<wr.heap.size:=CN _ _ X0;have HWS:Hid (IntKind.u64.wrap (y-z)=y-z):=hid (by rw[Jn];omega);have HWM:Hid (IntKind.i64.wrap (m:Int)=(m:Int)):=hid (by rw[IntKind.wrap_i64];omega);have HWT:Hid (IntKind.u64.wrap (y-z-1)=y-z-1):=hid (by rw[Jn];omega);have hz:=hb.size;clear hst hmo hub hu hJ1 hN0 hN1 hown hJ u0 t0;go_wp2_with fail;refine CJ (S:=fun w'=>w'.cell? ⟨b,o+(m+1),none⟩=some (.int .u64 y)∧w'.cell? ⟨b,o+m,none⟩=some (.int .u64 z)) zI hD (fun hHeld=> ?_);refine Ap (i:=0) (oi:=_) (v:=?_) rfl zE zE zE (fun _ _ _ h=>h) (Or.inl ⟨zS,?_⟩) zL ?_;rotate_left
    ·(intro w hSw;(try dsimp only at hSw);go_simp<;>with_reducible rfl)
    (try simp only[Act.put,Aa,Ab,Ac])
    (try simp only[AA,Ay,Aw,Act.put,Aa,Ab,Ac])
    refine Ap (i:=1) (oi:=_) (v:=?_) rfl zE zE zE (fun _ _ _ h=>h) (Or.inl ⟨zS,?_⟩) zL ?_;rotate_left
    ·(intro w hSw;(try dsimp only at hSw);go_simp<;>with_reducible rfl)
    (try simp only[Act.put,Aa,Ab,Ac])
    (try simp only[AA,Ay,Aw,Act.put,Aa,Ab,Ac])
    refine Ap (i:=2) (oi:=_) (v:=?_) rfl zE zE zE (fun _ _ _ h=>h) (Or.inl ⟨zS,?_⟩) zL ?_;rotate_left
    ·(intro w hSw;(try dsimp only at hSw);go_simp<;>with_reducible rfl)
    (try simp only[Act.put,Aa,Ab,Ac])
    (try simp only[AA,Ay,Aw,Act.put,Aa,Ab,Ac])
    refine Ap (i:=3) (oi:=_) (v:=?_) rfl zE zE zE (fun _ _ _ h=>h) (Or.inl ⟨zS,?_⟩) zL ?_;rotate_left
    ·(intro w hSw;(try dsimp only at hSw);go_simp<;>with_reducible rfl)
    (try simp only[Act.put,Aa,Ab,Ac])
    (try simp only[AA,Ay,Aw,Act.put,Aa,Ab,Ac])
    refine Ap (i:=4) (oi:=_) (v:=?_) rfl zE zE zE (fun _ _ _ h=>h) (Or.inl ⟨zS,?_⟩) zL ?_;rotate_left
    ·(intro w hSw;(try dsimp only at hSw);go_simp<;>with_reducible rfl)
    (try simp only[Act.put,Aa,Ab,Ac])
    (try simp only[AA,Ay,Aw,Act.put,Aa,Ab,Ac])
    refine Ap (i:=5) (oi:=_) (v:=?_) rfl zE zE zE (fun _ _ _ h=>h) (Or.inl ⟨zS,?_⟩) zL ?_;rotate_left
    ·(intro w hSw;(try dsimp only at hSw);go_simp<;>with_reducible rfl)
    (try simp only[Act.put,Aa,Ab,Ac])
    (try simp only[AA,Ay,Aw,Act.put,Aa,Ab,Ac])
    refine Ap (i:=6) (oi:=_) (v:=?_) rfl zE zE zE (fun _ _ _ h=>h) (Or.inl ⟨zS,?_⟩) zL ?_;rotate_left
    ·(intro w hSw;(try dsimp only at hSw);go_simp<;>with_reducible rfl)
    (try simp only[Act.put,Aa,Ab,Ac])
    (try simp only[AA,Ay,Aw,Act.put,Aa,Ab,Ac])
    refine Ap (i:=7) (oi:=_) (v:=?_) rfl zE zE zE (fun _ _ _ h=>h) (Or.inl ⟨zS,?_⟩) zL ?_;rotate_left
    ·(intro w hSw;(try dsimp only at hSw);go_simp<;>with_reducible rfl)
    (try simp only[Act.put,Aa,Ab,Ac])
    (try simp only[AA,Ay,Aw,Act.put,Aa,Ab,Ac])
    (try rw[HWM.out])
    refine Ap (i:=8) (oi:=_) (v:=?_) rfl zE zE zE (fun _ _ _ h=>h) (Or.inl ⟨zS,?_⟩) zL ?_;rotate_left
    ·(intro w hSw;(try dsimp only at hSw);go_simp<;>with_reducible rfl)
    (try simp only[Act.put,Aa,Ab,Ac])
    (try simp only[AA,Ay,Aw,Act.put,Aa,Ab,Ac])
    refine Ap (i:=9) (oi:=_) (v:=?_) rfl zE zE zE (fun _ _ _ h=>h) (Or.inl ⟨zS,?_⟩) zL ?_;rotate_left
    ·(intro w hSw;(try dsimp only at hSw);go_simp<;>with_reducible rfl)
    (try simp only[Act.put,Aa,Ab,Ac])
    (try simp only[AA,Ay,Aw,Act.put,Aa,Ab,Ac])
    refine Ap (i:=10) (oi:=_) (v:=?_) rfl zE zE zE (fun _ _ _ h=>h) (Or.inl ⟨zS,?_⟩) zL ?_;rotate_left
    ·(intro w hSw;(try dsimp only at hSw);go_simp<;>with_reducible rfl)
    (try simp only[Act.put,Aa,Ab,Ac])
    (try simp only[AA,Ay,Aw,Act.put,Aa,Ab,Ac])
    (try rw[HWS.out])
    refine Ap (i:=11) (oi:=_) (v:=?_) rfl zE zE zE (fun _ _ _ h=>h) (Or.inl ⟨zS,?_⟩) zL ?_;rotate_left
    ·(intro w hSw;(try dsimp only at hSw);go_simp<;>with_reducible rfl)
    (try simp only[Act.put,Aa,Ab,Ac])
    (try simp only[AA,Ay,Aw,Act.put,Aa,Ab,Ac])
    (try rw[HWT.out])
    refine AU (rs:=[12]) zE zN ?_;refine AK (o:=_) rfl (fun K hK=> ?_) AllReadyH.nil
    (go_simp;(try rw[HWS.out]);(try rw[HWT.out]);go_at_call 101;refine (HN.out _).mono ?_;rintro r w3 ⟨v3,rfl,hv3,hb3⟩;obtain⟨a3,c3,rfl⟩:=AD hv3;have HS3:=hid (A8 (BM rfl hv3));have HO3:=hid (AF HO.out (Af hb3 (Below.refl _ _).drew));have f1:=(hb3.cell (p:=⟨b,o+(m+1),none⟩) hbw).trans hD.1;have f2:=(hb3.cell (p:=⟨b,o+m,none⟩) hbw).trans hD.2;have hz3:=hb3.size;clear hv3)
    refine hK.out _ _ ?_ (fun hHeld=> ?_)
    ·((try dsimp only);refine⟨?_,?_⟩<;>(first | assumption | (go_keep;done)))
    clear hK K
    (try simp only[Act.put,Aa,Ab,Ac])
    refine AU (rs:=[13]) zE zN ?_;refine AK (o:=_) rfl (fun K hK=> ?_) AllReadyH.nil
    (refine BG zS _ _ _ zS w.heap.size 5 i0 (.int .u8 0) 1 1 Au hi hz0 hz1 hz2 rfl zO (.slice aJ J.length cJ) J.length (byteCells J) zS HO3.out a3 VK.length c3 (byteCells VK) zS HS3.out HONE.out zK zD zD ?_;intro a4 c4 w4 hown4 hgrow4 hat4;have HO4:=hid (BD.app hown4);have hbg4:Below w.heap.size w3 w4:=(Below.grown (Below.refl _ _) hgrow4 zD (fun g e=>(HO3.out.lt g e).1));have hb4:Below w.heap.size w w4:=hb.trans ((Below.refl _ _).drew.trans ((hb3.mono hb.size).trans hbg4));have g1:=(hbg4.cell (p:=⟨b,o+(m+1),none⟩) hbb).trans f1;have g2:=(hbg4.cell (p:=⟨b,o+m,none⟩) hbb).trans f2;clear hown4 hgrow4 hat4)
    refine hK.out _ _ ?_ (fun hHeld=> ?_)
    ·((try dsimp only);refine⟨?_,?_⟩<;>(first | assumption | (go_keep;done)))
    clear hK K
    (try simp only[Act.put,Aa,Ab,Ac])
    refine Ap (i:=14) (oi:=_) (v:=?_) rfl zE zE zE (fun _ _ _ h=>h) (Or.inl ⟨zS,?_⟩) zL ?_;rotate_left
    ·(intro w hSw;(try dsimp only at hSw);go_simp<;>with_reducible rfl)
    (try simp only[Act.put,Aa,Ab,Ac])
    (try simp only[AA,Ay,Aw,Act.put,Aa,Ab,Ac])
    refine CS zI ?_ _;go_wp2_with fail;go_roundw
    case rel=>exact ⟨m+1+1,J++VK,zD,zV,HO4.out,HJ1,⟨_,_,ZB⟩,hb4⟩
    case measure=>(simp[intOf];try omega)
  ·obtain rfl:k=l.length:=by omega
   have d1:decide ((l.length:Int)<(l.length:Int))=false:=Ae zD;have hfin:Hid (J=CG (D9 none l)):=hid zB3;have HO:=hid hown;clear hown hJ;go_wp2;go_ret;rw[←hfin.out];exact⟨_,rfl,HO.out,hb⟩
end Go.Proofs.YtfddhafbhceoaaaGreat
