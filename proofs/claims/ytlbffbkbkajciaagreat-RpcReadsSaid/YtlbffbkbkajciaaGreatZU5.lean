/- Mini: Needed by rpcReads_walk, part 5: texts put together by shake.py; no condition. -/
import Derived.Test.YtlbffbkbkajciaaGreatZU2
import Derived.Test.YtlbffbkbkajciaaGreatZU3
import Derived.Laws.IdiomStrings
import Derived.Laws.BytesArg
import Derived.Test.YtlbffbkbkajciaaGreatZU1
import Derived.Lib.SlBytesConst
import Derived.Test.YtlbffbkbkajciaaGreatZU4
set_option linter.unusedVariables false
set_option linter.unusedSimpArgs false
set_option maxRecDepth 100000
set_option maxHeartbeats 6400000
namespace Go.Bs
variable{base g n:Nat}{e:TypeId}{v:Value}{w:World}
theorem zC2{p:Prop}(h:p:=by rw [hst.out]; simp only [Au]; omega):p:=h
theorem zCf{p:Prop}(h:p:=by rw [hf.out]; rfl):p:=h
theorem zCc{p:Prop}(h:p:=by have := hb1.size; simpa using this):p:=h
theorem zB2{p:Prop}(h:p:=by rw [← EZ (by omega)]; omega):p:=h
theorem zBi{p:Prop}(h:p:=by rw [Au]; have := hfit'.out; omega):p:=h
theorem zBh{p:Prop}(h:p:=by rw [Au]; have := hlen'.out; omega):p:=h
theorem zAq{p:Prop}(h:p:=by have := (hav _ e).1; omega):p:=h
theorem ZP{p:Prop}(h:p:=by rw [← Fp]; simp only [EP, AL, AN]; omega):p:=h
theorem ZJ{p:Prop}(h:p:=by rw [hfin.out]; rfl):p:=h
theorem zV{p:Prop}(h:p:=by have := hq.1; omega):p:=h
theorem CF:type_of% @List.append_assoc:=@List.append_assoc
theorem C4:type_of% @Bool.or_eq_true:=@Bool.or_eq_true
theorem EM:type_of% @World.alloc_heap_new:=@World.alloc_heap_new
theorem ER:type_of% @Proofs.Tryz.ntmps277:=@Proofs.Tryz.ntmps277
theorem Fp:type_of% @Bool.not_eq_true:=@Bool.not_eq_true
theorem FD:type_of% @Proofs.Tryz.func277:=@Proofs.Tryz.func277
theorem KF:type_of% @List.take_length:=@List.take_length
end Go.Bs
namespace Go.Proofs.YtlbffbkbkajciaaGreat
open Go.RowKit Go.Bs Go.Maps
variable{cells:List (List Value)}{D J J' b l:List UInt8}{cs:List Value}{base c cb cp g gs i lo mb most n p sc sz:Nat}{F S:Nat → Prop}{a a1 ab ap sa:Option Addr}{e t:TypeId}{v vl:Value}{w w' w1:World}
structure G8(w wr:World)(N0 N1 gs g mb base:Nat)(b:List UInt8)(sa:Option Addr)(sc:Nat)(ab:Option Addr)(cb:Nat)(a:Option Addr)(c:Nat)(p i nn:Nat)(av:Option Addr)(cv:Nat)(ap:Option Addr)(cp:Nat)(L:List Tok)(cells:List (List Value)):Prop where
 pb:p≤b.length
 ip:i≤p
 np:nn≤p
 bb:Blk wr w.heap.size 25 #[.slice a b.length c]
 bo:Blk wr (w.heap.size+1) 214 #[.slice av L.length cv]
 bf:Blk wr (w.heap.size+2) 3 #[.int .i64 (i:Int)]
 own:Bg (fun q=>N1≤q∧q<wr.heap.size∧(Value.slice ap nn cp).ownBlock≠some q) Gw N1 225 3 wr (.slice av L.length cv) L cells
 sk:H8 wr gs g mb base N0 N1 b nn sa sc ab cb ap cp
 apart:∀q,(Value.slice av L.length cv).ownBlock=some q→(Value.slice ap nn cp).ownBlock≠some q
 len:L.length≤p
 toks:L++Iq b p i=Ds b
 below:Below w.heap.size w wr
 n0:N0=w.heap.size+3
 n1:N0≤gs∧gs<N1∧N0≤g∧g<N1∧N0≤mb∧mb<N1∧N0≤base
theorem G8.top{wr:World}{N0 N1:Nat}{nn:Nat}{av:Option Addr}{cv:Nat}{L:List Tok}
 (h:G8 w wr N0 N1 gs g mb base b sa sc ab cb a c p i nn av cv ap cp L cells):N1≤wr.heap.size:=h.sk.top
theorem G8.Vv{wr:World}{N0 N1:Nat}{nn m:Nat}{av:Option Addr}{cv:Nat}{L:List Tok}
 (h:G8 w wr N0 N1 gs g mb base b sa sc ab cb a c p i nn av cv ap cp L cells) (hs:NF wr gs g mb base N0 N1 b nn m sa sc ab cb ap cp w1) (hm:m≤p):
  ∃ap' cp',G8 w w1 N0 N1 gs g mb base b sa sc ab cb a c p i m av cv ap' cp' L cells:=by
 obtain⟨ap',cp',h1,h2,h3⟩:=hs;have htop:=h.top;have hn0:=h.n0;obtain⟨k1,k2,k3,k4,k5,k6,k7⟩:=h.n1;have hsz:=h2.size;have hapb:∀q,(Value.slice ap nn cp).ownBlock=some q→N0≤q∧q<wr.heap.size:=fun q hq=>by
  have:=h.sk.ch.prev.lt q hq;exact⟨zD,this.2⟩
 have hlow:∀q,q<N0→¬(q=gs∨q=g∨q=mb∨(Value.slice ap nn cp).ownBlock=some q):=fun q hq e=>by
  rcases e with e | e | e | e
  ·omega
  ·omega
  ·omega
  ·have:=(hapb q e).1;omega
 have hav:=fun q (hq:(Value.slice av L.length cv).ownBlock=some q)=>h.own.1.lt q hq;have hnew:∀q,q<wr.heap.size→(Value.slice ap nn cp).ownBlock≠some q→(Value.slice ap' m cp').ownBlock≠some q:=fun q hq hne e=>by
  rcases h3 with h3 | ⟨q',hq',hlt⟩
  ·rw[h3] at e;exact hne e
  ·rw[hq'] at e;have:=By e;omega
 refine⟨ap',cp',⟨h.pb,h.ip,hm,h.bb.tch h2 (hlow _ zD),h.bo.tch h2 (hlow _ zD),h.bf.tch h2 (hlow _ zD),?_,h1,fun q hq=>hnew q (hav q hq).2 (h.apart q hq),h.len,h.toks,h.below.trans (h2.Ba zD fun q hq e=> ?_),h.n0,h.n1⟩⟩
 ·refine (h.own.keep (w':=w1) (fun q hq=>h2.block q hq.2.1 (fun e=> ?_)) (fun q hq=>h2.block q (hav q hq).2 (fun e=> ?_))).mono fun q hq=>⟨hq.1,zD,hnew q hq.2.1 hq.2.2⟩
  ·rcases e with e | e | e | e
   ·omega
   ·omega
   ·omega
   ·exact hq.2.2 e
  ·have:=(hav q hq).1
   rcases e with e | e | e | e
   ·omega
   ·omega
   ·omega
   ·exact h.apart q hq e
 ·by_cases hq0:q<N0
  ·exact absurd e (hlow q hq0)
  ·omega
theorem G8.out{w wr w1:World}{N0 N1:Nat}{nn:Nat}{av:Option Addr}{cv:Nat}{ap:Option Addr}{cp:Nat}{L:List Tok}
 (h:G8 w wr N0 N1 gs g mb base b sa sc ab cb a c p i nn av cv ap cp L cells) {p' i':Nat} {av':Option Addr} {cv':Nat} {L':List Tok} {cells':List (List Value)} (hp:p'≤b.length) (hi:i'≤p') (hn:nn≤p')
 (hf:Blk w1 (w.heap.size+2) 3 #[.int .i64 (i':Int)]) (ho:Blk w1 (w.heap.size+1) 214 #[.slice av' L'.length cv'])
 (hown:Bg (fun q=>(N1≤q∧q<wr.heap.size∧(Value.slice ap nn cp).ownBlock≠some q)∨(wr.heap.size≤q∧q<w1.heap.size)) Gw N1 225 3 w1 (.slice av' L'.length cv') L' cells')
 (ht:Tch (fun q=>q=w.heap.size+1∨q=w.heap.size+2∨(Value.slice av L.length cv).ownBlock=some q) wr w1) (hat:(Value.slice av' L'.length cv').ownBlock=(Value.slice av L.length cv).ownBlock∨∃q,(Value.slice av' L'.length cv').ownBlock=some q∧wr.heap.size≤q)
 (hlen:L'.length≤p') (htok:L'++Iq b p' i'=Ds b):G8 w w1 N0 N1 gs g mb base b sa sc ab cb a c p' i' nn av' cv' ap cp L' cells':=by
 have htop:=h.top;have hn0:=h.n0;obtain⟨k1,k2,k3,k4,k5,k6,k7⟩:=h.n1;have hsz:=ht.size;have hapb:∀q,(Value.slice ap nn cp).ownBlock=some q→N0≤q∧q<wr.heap.size:=fun q hq=>by
  have:=h.sk.ch.prev.lt q hq;exact⟨zD,this.2⟩
 have hav:=fun q (hq:(Value.slice av L.length cv).ownBlock=some q)=>h.own.1.lt q hq;have hmid:∀q,N0≤q→q<N1→¬(q=w.heap.size+1∨q=w.heap.size+2∨(Value.slice av L.length cv).ownBlock=some q):=fun q h1 h2 e=>by
  rcases e with e | e | e
  ·omega
  ·omega
  ·have:=(hav q e).1;omega
 obtain⟨t,hgs⟩:=h.sk.blk;refine⟨hp,hi,hn,h.bb.tch ht (fun e=> ?_),ho,hf,hown.mono fun q hq=> ?_,h.sk.tch ht (hmid g k3 k4) (hmid mb k5 k6) (fun q hq e=> ?_) (fun q h1 h2 _=>hmid q h1 h2) ⟨t,hgs.tch ht (hmid gs k1 k2)⟩,fun q hq e=> ?_,hlen,htok,h.below.trans (ht.Ba h.below.size fun q hq e=> ?_),h.n0,h.n1⟩
 ·rcases e with e | e | e
  ·omega
  ·omega
  ·have:=(hav _ e).1;omega
 ·rcases hq with hq | hq
  ·exact⟨hq.1,zD,hq.2.2⟩
  ·exact⟨zD,hq.2,fun e=>by have:=(hapb q e).2;omega⟩
 ·rcases e with e | e | e
  ·have:=(hapb q hq).1;omega
  ·have:=(hapb q hq).1;omega
  ·exact h.apart q e hq
 ·rcases hat with hat | ⟨q',hq',hlt⟩
  ·rw[hat] at hq;exact h.apart q hq e
  ·rw[hq'] at hq;have:=By hq;have:=(hapb q e).2;omega
 ·rcases e with e | e | e
  ·omega
  ·omega
  ·have:=(hav q e).1;omega
def Rm(w:World)(L:List Tok)(r:Ending)(w':World):Prop:=∃v,r=.returned (.tuple #[v,.int .i64 0])∧Kj.r (fun q=>w.heap.size≤q∧q<w'.heap.size) w' [v] L∧Below w.heap.size w w'
theorem Ni(w:World)(b:List UInt8)(a:Option Addr)(n c:Nat)(hl:Ah.r (·<w.heap.size) w [.slice a n c] b)(hlen:b.length≤1048576):
  Calls Tryz.prog 247 #[.slice a n c] w (Rm w (Ds b)):=by
 obtain⟨rfl,hm,_,_⟩:=AU hl;obtain⟨j0,hj0,hy0,hy1,hy2⟩:=Bc Nr;have HL:=hid hl;clear hl;have d1:decide ((1048576:Int)<(b.length:Int))=false:=zM;go_enter Tryz.func247,Tryz.ntmps247;go_wp2_with fail;refine (SP _ b _ _ _ (lift HL.out zC) hlen).mono ?_;rintro r w1 ⟨gs,g,mb,base,sa,sc,ab,cb,rfl,hsk,hb1,q1,q2,q3,q4⟩;have hz1:w.heap.size+3≤w1.heap.size:=zCc;simp only[World.size_alloc] at q1 q2 q3 q4;have hmlt:mb<w1.heap.size:=by obtain⟨D,hD,_⟩:=hsk.ch.map;exact hD.lt
 have hat0:G8 w w1 (w.heap.size+3) w1.heap.size gs g mb base b sa sc ab cb a c 0 0 0 none 0 none 0 [] []:=by
  refine⟨Ao _,Aj _,Aj _,Blk.later zB hb1,Blk.later zB hb1,Blk.later zB hb1,Bg.nil,?_,fun q hq=>by simp[Value.ownBlock] at hq,Ao _,?_,zC,rfl,⟨zD,hsk.blk.choose_spec.lt,zD,hsk.ch.blk.lt,zD,hmlt,zD⟩⟩
  ·simpa using hsk
  ·rfl
 have H0:=hid hat0;clear hat0 hsk q1 q2 q3 q4 hmlt;generalize hN1:w1.heap.size=N1 at*;have HN1:=hid hN1;clear hN1;go_wp2_with fail;go_loopw [8] (fun i wr=>∃(p i0 nn:Nat) (av:Option Addr) (cv:Nat) (ap:Option Addr) (cp:Nat) (L:List Tok) (cells:List (List Value)),i=.int .i64 p∧Hid (G8 w wr (w.heap.size+3) N1 gs g mb base b sa sc ab cb a c p i0 nn av cv ap cp L cells)) (fun i _=>b.length-(intOf i).toNat)
 case atStart=>exact ⟨0,0,0,none,0,none,0,[],[],rfl,H0⟩
 case round=>
  obtain⟨p,i,nn,av,cv,ap,cp,L,cells,rfl,hT⟩:=hrel;clear H0;have hpb:=hT.out.pb;have hip:=hT.out.ip;have cb0:wr.cell? ⟨w.heap.size,0,none⟩=some (.slice a b.length c):=hT.out.bb.cell 0;by_cases hlt:p<b.length
  ·have hB:=hid (RB wr hT.out.sk hT.out.np hlt)
   have hbr:=G0 b p;have htn:=hid (fun h=>O8 (b:=b) (p:=p) (i:=i) hlt h);have hts:=hid (fun h=>O6 (b:=b) (p:=p) (i:=i) hlt h);have hfc:=hid (Fo b p);have dlt:decide ((p:Int)<(b.length:Int))=true:=zM;generalize hbb:BP b p=bb at*;obtain⟨o,m⟩:=bb;have HBB:=hid hbb;clear hbb;simp only at hbr;go_wp2_with fail;refine hB.out.mono ?_;rintro r w2 ⟨hr,hst⟩;rw[HBB.out] at hr;subst hr;obtain⟨ap2,cp2,hT2⟩:=hT.out.Vv hst (Aj _);have HT2:=hid hT2;clear hst hT2;by_cases hm0:m=0
   ·have e1:((m:Int)==0)=true:=by simp;omega
    have HT3:=hid (show G8 w w2 (w.heap.size+3) N1 gs g mb base b sa sc ab cb a c (p+1) i p av cv ap2 cp2 L cells from {HT2.out with pb:=zD,ip:=zD,np:=zD,len:=by have:=HT2.out.len;omega,toks:=by rw[←htn.out hm0];exact HT2.out.toks});clear hm0;go_wp2_with fail;go_roundw
    case rel=>exact ⟨p+1,i,p,av,cv,ap2,cp2,L,cells,zZ,HT3⟩
    case measure=>simp [intOf];omega
   ·have e1:((m:Int)==0)=false:=by simp;omega
    have hm4:4≤m∧o≤p:=by
     rcases hfc.out with h | ⟨o',m',h,h1,h2,h3,_⟩
     ·simp only[A7] at h;omega
     ·simp only[A7] at h
      unfold reach at h2;omega
    have htop:=HT2.out.top;have hn0:=HT2.out.n1;have hav:=fun q (hq:(Value.slice av L.length cv).ownBlock=some q)=>HT2.out.own.1.lt q hq;have hRun:=Ms w2 (to:=p) HT2.out.bf HT2.out.bo HT2.out.bb (Ah.mono (Ah.keep HL.out fun q hq=>HT2.out.below.block q hq) fun q hq=>Am hq HT2.out.below.size) HT2.out.own (fun q hq=>hq.2.1) (fun hq=>zV) (fun e=>zAq) ⟨zD,zD,fun e=>zAq,fun e=>zAq⟩ zD hlen (by have:=HT2.out.len;omega) htop;have HRun:=hid hRun;clear hRun;have HM0:=hid hm0;clear hm0;go_wp2_with fail;refine HRun.out.mono ?_;rintro r w3 ⟨rfl,av3,cv3,cells3,hbo3,hown3,ht3,hat3⟩;have hLL:(L++DY b i p).length≤p+1:=by
     have h1:=HT2.out.len;unfold DY;split<;>simp<;>omega
    have HHBO:=hid hbo3;have o1:w3.cell? ⟨w.heap.size+1,0,none⟩=some (.slice av3 (L++DY b i p).length cv3):=hbo3.cell 0;have o2:=hbo3.free 0;have l1:=hbo3.lt;have HB3:=hid (HT2.out.bf.tch ht3 (fun e=>by
     rcases e with e | e
     ·omega
     ·have:=(hav _ e).1;omega))
    have l2:=HB3.out.lt;have hz3:N1≤w3.heap.size:=A4 htop ht3.size;have hav3:=fun q (hq:(Value.slice av3 (L++DY b i p).length cv3).ownBlock=some q)=>hown3.1.lt q hq;generalize hL3:L++DY b i p=L3 at*;have HL3:=hid hL3;have HO3:=hid hown3;have HT3:=hid ht3;have HAT3:=hid hat3;have HAV3:=hid hav3;have HAV:=hid hav;clear hL3 hown3 ht3 hat3 hbo3 hav3 hav;have f3:=HB3.out.free 0;go_wp2_with (at_builtin;go_loud (refine Ar rfl _ _ _ rfl N1 225 j0 (.agg #[.slice none 0 0,.int .i64 0,.int .i64 0]) 3 40 Tryz.underlying214 hj0 hy0 hy1 hy2 rfl zS (.slice av3 L3.length cv3) L3.length cells3.flatten rfl (AR HO3.out.1 zC) (some ⟨w3.heap.size,0,none⟩) 1 1 [.slice none 0 0,.int .i64 (o:Int),.int .i64 (m:Int)] rfl (Bf w3 225 _ rfl rfl rfl) (by intro u hu;simp at hu;rcases hu with rfl | rfl | rfl<;>rfl) zR zD zM ?_;intro v8 w8 hown8 hgrow8 hat8;obtain⟨a8,c8,rfl⟩:=AX hown8;have G:=fun b' (hb:b'<w3.heap.size) (hne:(Value.slice av3 L3.length cv3).ownBlock≠some b')=>(hgrow8.block b' zM (fun e=>hne e.symm)).trans (A2 w3 _ b' hb);have n1:(Value.slice av3 L3.length cv3).ownBlock≠some (w.heap.size+1):=fun e=>by {have:=(HAV3.out _ e).1;omega};have n2:(Value.slice av3 L3.length cv3).ownBlock≠some (w.heap.size+2):=fun e=>by {have:=(HAV3.out _ e).1;omega};have m1:=(Bq (a:=⟨w.heap.size+1,0,none⟩) (G _ l1 n1)).trans o1;have m2:=(Cx (a:=⟨w.heap.size+1,0,none⟩) (G _ l1 n1)).trans o2;have m3:w.heap.size+1<w8.heap.size:=Am l1 (A4 zP hgrow8.size);have m4:=(Cx (a:=⟨w.heap.size+2,0,none⟩) (G _ l2 n2)).trans f3;have m6:=(Bq (a:=⟨w.heap.size+2,0,none⟩) (G _ l2 n2)).trans (HB3.out.cell 0);have m5:w.heap.size+2<w8.heap.size:=Am l2 (A4 zP hgrow8.size);have HG8:=hid hgrow8;have HO8:=hid hown8;have HA8:=hid hat8;have HGG:=hid G;clear hgrow8 hown8 hat8 G))
    have hOF:=(HO3.out.keep (w':=w3.alloc (.cells #[.slice none 0 0,.int .i64 (o:Int),.int .i64 (m:Int)] 225)) (fun q hq=>A2 w3 _ q (by
     have hs3:=HT3.out.size;rcases hq with h | h
     ·omega
     ·omega)) (fun q hq=>A2 w3 _ q (HAV3.out q hq).2))
    have hx:Gw.r (fun q=>((N1≤q∧q<w2.heap.size∧(Value.slice ap2 p cp2).ownBlock≠some q)∨(w2.heap.size≤q∧q<w3.heap.size))∧(Value.slice av3 L3.length cv3).ownBlock≠some q) (w3.alloc (.cells #[.slice none 0 0,.int .i64 (o:Int),.int .i64 (m:Int)] 225)) [.slice none 0 0,.int .i64 (o:Int),.int .i64 (m:Int)] ⟨[],o,m⟩:=
     M4 (x:=⟨[],o,m⟩) (AZ rfl (Aj _) (Ao _) (.inl rfl)) zM zM
    have OPU:=Bg.push hOF (fun q hq=>by
     have hs3:=HT3.out.size;rcases hq with h | h
     ·simp;omega
     ·simp;omega) rfl hx HO8.out HG8.out HA8.out
    have hs8:=HG8.out.size;simp only[World.size_alloc] at hs8;have hs3:=HT3.out.size;have hnew8:∀q,q<N1→(Value.slice a8 (L3.length+1) c8).ownBlock≠some q:=fun q hq e=>by
     have:=(HO8.out.lt q e).1;omega
    have hll:(L3++[(⟨[],o,m⟩:Tok)]).length=L3.length+1:=zP;have hsz:((w8.setCell ⟨w.heap.size+1,0,none⟩ (.slice a8 (L3.length+1) c8)).setCell ⟨w.heap.size+2,0,none⟩ (.int .i64 ((p:Int)+(m:Int)))).heap.size=w8.heap.size:=ZQ;have keep9:∀q,q≠w.heap.size+1→q≠w.heap.size+2→((w8.setCell ⟨w.heap.size+1,0,none⟩ (.slice a8 (L3.length+1) c8)).setCell ⟨w.heap.size+2,0,none⟩ (.int .i64 ((p:Int)+(m:Int)))).heap[q]? =w8.heap[q]? :=fun q k1 k2=>(Ap _ _ _ _ k2).trans (Ap _ _ _ _ k1);have OP9:=(OPU.keep (w':=(w8.setCell ⟨w.heap.size+1,0,none⟩ (.slice a8 (L3.length+1) c8)).setCell ⟨w.heap.size+2,0,none⟩ (.int .i64 ((p:Int)+(m:Int)))) (fun q hq=>keep9 q (by rcases hq with h | h<;>omega) (by rcases hq with h | h<;>omega)) (fun q hq=>keep9 q (fun e=>hnew8 q zD hq) (fun e=>hnew8 q zD hq))).mono (F':=fun q=>(N1≤q∧q<w2.heap.size∧(Value.slice ap2 p cp2).ownBlock≠some q)∨(w2.heap.size≤q∧q<((w8.setCell ⟨w.heap.size+1,0,none⟩ (.slice a8 (L3.length+1) c8)).setCell ⟨w.heap.size+2,0,none⟩ (.int .i64 ((p:Int)+(m:Int)))).heap.size)) (fun q hq=>by
     rw[hsz];rcases hq with h | h
     ·exact .inl h
     ·exact .inr ⟨h.1,zD⟩)
    have hbo8:Blk w8 (w.heap.size+1) 214 #[.slice av3 L3.length cv3]:=(HGG.out _ l1 n1).trans HHBO.out;have hbf8:Blk w8 (w.heap.size+2) 3 #[.int .i64 (i:Int)]:=(HGG.out _ l2 n2).trans HB3.out;have hfin:G8 w ((w8.setCell ⟨w.heap.size+1,0,none⟩ (.slice a8 (L3.length+1) c8)).setCell ⟨w.heap.size+2,0,none⟩ (.int .i64 ((p:Int)+(m:Int)))) (w.heap.size+3) N1 gs g mb base b sa sc ab cb a c (p+m) (p+m) p a8 c8 ap2 cp2 (L3++[⟨[],o,m⟩]) (cells3++[[.slice none 0 0,.int .i64 (o:Int),.int .i64 (m:Int)]]):=by
     refine HT2.out.out zD (Aj _) zD ?_ ?_ (by rw[hll];exact OP9) ?_ ?_ (by rw[hll];omega) ?_
     ·exact (hbf8.far zH _).set 0 _
     ·rw[hll];exact (hbo8.set 0 _).far zH _
     ·refine Tch.setCell (Tch.setCell ⟨HG8.out.os.trans HT3.out.os,HG8.out.tape.trans HT3.out.tape,HG8.out.output.trans HT3.out.output,zD,fun q hq hf=> ?_⟩ (fun _=> .inl rfl) _) (fun _=> .inr (.inl rfl)) _
      have h3:(Value.slice av3 L3.length cv3).ownBlock≠some q:=fun e=>by
       rcases HAT3.out with h | ⟨q',hq',hlt'⟩
       ·rw[h] at e;exact hf (.inr (.inr e))
       ·rw[hq'] at e;have:=By e;omega
      exact (HGG.out q zD h3).trans (HT3.out.block q hq (fun e=>by
       rcases e with e | e
       ·exact hf (.inl e)
       ·exact hf (.inr (.inr e))))
     ·rw[hll]
      rcases HA8.out with h | h
      ·rcases HAT3.out with h' | ⟨q',hq',hlt'⟩
       ·exact .inl (h.trans h')
       ·exact .inr ⟨q',h.trans hq',hlt'⟩
      ·exact .inr ⟨_,h,zM⟩
     ·have e1:=hts.out HM0.out
      have e2:=HT2.out.toks;rw[e1] at e2;rw[←e2,←HL3.out];simp
    have HF:=hid hfin;clear hfin OP9 OPU hx hOF keep9 hsz hbo8 hbf8 hnew8 hll;go_roundw
    case rel=>exact ⟨p+m,p+m,p,a8,c8,ap2,cp2,_,_,zZ,HF⟩
    case measure=>simp [intOf];omega
  ·have hpe:p=b.length:=by omega
   subst hpe;have htop:=hT.out.top;have hn0:=hT.out.n1;have hav:=fun q (hq:(Value.slice av L.length cv).ownBlock=some q)=>hT.out.own.1.lt q hq;have hRun:=Ms wr (to:=b.length) hT.out.bf hT.out.bo hT.out.bb (Ah.mono (Ah.keep HL.out fun q hq=>hT.out.below.block q hq) fun q hq=>Am hq hT.out.below.size) hT.out.own (fun q hq=>hq.2.1) (fun hq=>zV) (fun e=>zAq) ⟨zD,zD,fun e=>zAq,fun e=>zAq⟩ (Aj _) hlen (by have:=hT.out.len;omega) htop;have htk:=hT.out.toks;rw[Rt (Aj _)] at htk;rw[htk] at hRun;have HRun:=hid hRun;clear hRun htk;have dlt:decide ((b.length:Int)<(b.length:Int))=false:=zP;go_wp2_with fail;refine HRun.out.mono ?_;rintro r w3 ⟨rfl,av3,cv3,cells3,hbo3,hown3,ht3,hat3⟩;have o1:w3.cell? ⟨w.heap.size+1,0,none⟩=some (.slice av3 (Ds b).length cv3):=hbo3.cell 0;have hbel:Below w.heap.size w w3:=hT.out.below.trans (ht3.Ba hT.out.below.size fun q hq e=>by
    rcases e with e | e
    ·omega
    ·have:=(hav _ e).1;omega)
   have hsl:=hown3.slice;have hlt3:=hown3.1.lt;have hs3:=ht3.size;have hpost:Rm w (Ds b) (.returned (.tuple #[.slice av3 (Ds b).length cv3,.int .i64 0])) w3:=⟨_,rfl,(rSl 3 Gw).mono hsl fun q hq=>by
    rcases hq with (h | h) | h
    ·exact⟨zD,zD⟩
    ·exact⟨zD,h.2⟩
    ·have:=hlt3 q h;exact⟨zD,this.2⟩,hbel⟩
   have HP:=hid hpost;clear hpost hsl hlt3 hbel hown3 ht3 hat3 hbo3;go_wp2;go_ret2
   exact HP.out
end Go.Proofs.YtlbffbkbkajciaaGreat
namespace Go.Bs
open Go.RowKit
variable{base g n:Nat}{e:TypeId}{v:Value}{w:World}
end Go.Bs
namespace Go.Proofs.YtlbffbkbkajciaaGreat
open Go.RowKit Go.Bs Go.Maps
variable{cells:List (List Value)}{D J J' b l:List UInt8}{cs:List Value}{base c cb cp g gs i lo mb most n p sc sz:Nat}{F S:Nat → Prop}{a a1 ab ap sa:Option Addr}{e t:TypeId}{v vl:Value}{w w' w1:World}
theorem Ru{x:Tok}(h:Gw.r S w cs x):∃a c,cs=[.slice a x.lit.length c,.int .i64 x.off,.int .i64 x.len]∧(-9223372036854775808≤x.off∧x.off≤9223372036854775807)∧(-9223372036854775808≤x.len∧x.len≤9223372036854775807)∧Ah.r S w [.slice a x.lit.length c] x.lit:=by
 obtain⟨c1,c2,rfl,h1,c3,c4,rfl,⟨rfl,h2⟩,rfl,h3⟩:=h;obtain⟨a,c,rfl,h4,_⟩:=At h1;exact⟨a,c,rfl,bounds_i64 h2,bounds_i64 h3,h4⟩
theorem M5{xs:List Tok}(h:Kj.r S w [.slice a n c] xs)(hi:i<xs.length):∃b off,a=some ⟨b,off,none⟩∧S b∧∃a' c',w.cell? ⟨b,off+i*3,none⟩=some (.slice a' xs[i].lit.length c')∧w.cell? ⟨b,off+i*3+1,none⟩=some (.int .i64 xs[i].off)∧w.cell? ⟨b,off+i*3+2,none⟩=some (.int .i64 xs[i].len)∧
  (-9223372036854775808≤xs[i].off∧xs[i].off≤9223372036854775807)∧(-9223372036854775808≤xs[i].len∧xs[i].len≤9223372036854775807)∧Ah.r S w [.slice a' xs[i].lit.length c'] xs[i].lit:=by
 obtain⟨b,off,e,hS,cs,_,hc,hA⟩:=Ka h hi;obtain⟨a',c',rfl,h1,h2,h3⟩:=Ru hA;exact⟨b,off,e,hS,a',c',hc 0 _ rfl,hc 1 _ rfl,hc 2 _ rfl,h1,h2,h3⟩
def EP(t:Tok):Bool:=decide (t.off=0)&&(decide (t.len=0)&&(decide (1≤t.lit.length)&&decide (t.lit.length≤1048576)))
def Gk(t:Tok):Bool:=decide (t.lit.length=0)&&(decide (1≤t.off)&&(decide (t.off≤65536)&&(decide (4≤t.len)&&decide (t.len≤1048576))))
theorem Mp(x:Tok)(a:Option Addr)(c:Nat)(w:World)(hl:x.lit.length≤9223372036854775807)(h1: -9223372036854775808≤x.off∧x.off≤9223372036854775807)(h2: -9223372036854775808≤x.len∧x.len≤9223372036854775807):
  Calls Tryz.prog 252 #[.agg #[.slice a x.lit.length c,.int .i64 x.off,.int .i64 x.len]] w fun r w'=>r=.returned (.bool (EP x))∧Below w.heap.size w w':=by
 obtain⟨D,o,m⟩:=x;dsimp only at*;by_cases h0:o=0
 ·skip
  have d0:(o==0)=true:=beq_iff_eq.2 zD;by_cases h1:m=0
  ·skip
   have d1:(m==0)=true:=beq_iff_eq.2 zD;by_cases h2:1≤D.length
   ·skip
    have d2:decide (1≤(D.length:Int))=true:=Ae zD;have d2':decide (1≤D.length)=true:=Ae zD;by_cases h3:D.length≤1048576
    ·skip
     have d3:decide ((D.length:Int)≤1048576)=true:=Ae zD;have d3':decide (D.length≤1048576)=true:=Ae zD;have hff:Hid (EP ⟨D,o,m⟩=true):=hid (by simp only[EP,AL,AN];omega);clear h1;go_enter Tryz.func252,Tryz.ntmps252;go_wp2;go_ret;exact⟨zQ,zC⟩
    ·skip
     have d3:decide ((D.length:Int)≤1048576)=false:=Ad zD;have d3':decide (D.length≤1048576)=false:=Ad zD;have hff:Hid (EP ⟨D,o,m⟩=false):=hid ZP;clear h1;go_enter Tryz.func252,Tryz.ntmps252;go_wp2;go_ret;exact⟨zQ,zC⟩
   ·skip
    have d2:decide (1≤(D.length:Int))=false:=Ad zD;have d2':decide (1≤D.length)=false:=Ad zD;have hff:Hid (EP ⟨D,o,m⟩=false):=hid ZP;clear h1;go_enter Tryz.func252,Tryz.ntmps252;go_wp2;go_ret;exact⟨zQ,zC⟩
  ·skip
   have d1:(m==0)=false:=beq_eq_false_iff_ne.2 zD;have hff:Hid (EP ⟨D,o,m⟩=false):=hid ZP;clear h1;go_enter Tryz.func252,Tryz.ntmps252;go_wp2;go_ret;exact⟨zQ,zC⟩
 ·skip
  have d0:(o==0)=false:=beq_eq_false_iff_ne.2 zD;have hff:Hid (EP ⟨D,o,m⟩=false):=hid ZP;clear h1;go_enter Tryz.func252,Tryz.ntmps252;go_wp2;go_ret;exact⟨zQ,zC⟩
inductive Good (b:List UInt8):Bool→Nat→List Tok→Prop where
 | nil {f:Bool}:Good b f b.length []
 | copy {f:Bool} {p o m:Nat} {rest:List Tok}:p<b.length→BP b p=(o,m)→m≠0→Good b false (p+m) rest→Good b f p (⟨[],(o:Int),(m:Int)⟩::rest)
 | run {p q:Nat} {rest:List Tok}:p<q→q≤b.length→(∀r,p≤r→r<q→(BP b r).2=0)→Good b true q rest→Good b false p (⟨(b.drop p).take (q-p),0,0⟩::rest)
theorem Lw{rest:List Tok}(hip:i≤p)(hp:p≤b.length)(h:∀r,i≤r→r<p→(BP b r).2=0)(hg:∀f,Good b f p rest):Good b false i (DY b i p++rest):=by
 unfold DY;by_cases hlt:i<p
 ·rw[An hlt]
  exact .run hlt hp h (hg true)
 ·obtain rfl:i=p:=by omega
  rw[Ak hlt];exact hg false
theorem JQ(b:List UInt8):∀(f p i:Nat),b.length≤p+f→i≤p→p≤b.length→(∀r,i≤r→r<p→(BP b r).2=0)→Good b false i (Ei b f p i)
 | 0,p,i,h1,h2,h3,h4=>by
  obtain rfl:p=b.length:=zD;have:=Lw (rest:=[]) h2 h3 h4 fun f=> .nil;simpa [Ei] using this
 | f+1,p,i,h1,h2,h3,h4=>by
  simp only[Ei];by_cases hp:p<b.length
  ·rw[An hp]
   by_cases hm:(BP b p).2=0
   ·rw[An hm]
    refine JQ b f (p+1) i zD zD zD fun r hr1 hr2=> ?_;by_cases hrp:r=p
    ·rw[hrp];exact hm
    ·exact h4 r hr1 zD
   ·rw[Ak hm]
    have hroom:=(G0 b p).1;refine Lw h2 h3 h4 fun g=> .copy hp rfl hm ?_;exact JQ b f _ _ zD (Aj _) zD fun r h1 h2=>by omega
  ·rw[Ak hp]
   obtain rfl:p=b.length:=zD;have:=Lw (rest:=[]) h2 h3 h4 fun f=> .nil;simpa using this
theorem Qn(b:List UInt8):Good b false 0 (Ds b):=JQ b b.length 0 0 zD (Aj _) (Ao _) fun r h1 h2=>by omega
theorem RZ{fr:Nat × Nat}{cs:Array Value}(hcs:cs=(byteCells l).toArray)(hl:l.length≤1000000)(hb:w.heap[g]? =some (.cells cs t fr)):Ah.r (·<w.heap.size) w [.slice (some ⟨g,0,none⟩) l.length l.length] l:=by
 subst hcs;refine AZ (xs:=l) rfl (Aj _) (by simp[maxLen];omega) (.inr ⟨g,0,rfl,(Array.getElem?_eq_some_iff.1 hb).1,fun i x hi=>⟨[.int .u8 (x.toNat:Int)],rfl,fun j v hj=> ?_,rfl⟩⟩);have hj0:j=0:=by
  rcases j with _ | j
  ·rfl
  ·simp at hj
 subst hj0;simp at hj;subst hj;rw[Cb,Ef,CE];simp[World.cell?,hb,byteCells,hi]
theorem IY(b:List UInt8):∀(f p i:Nat),(Ei b f p i).length≤2*f+1
 | 0,p,i=>by
  simp only[Ei,DY];split<;>simp
 | f+1,p,i=>by
  simp only[Ei];split
  ·split
   ·have:=IY b f (p+1) i;omega
   ·have:=IY b f (p+(BP b p).2) (p+(BP b p).2)
    simp only[Au,Bo,DY];split<;>simp<;>omega
  ·simp only[DY]
   split<;>simp
end Go.Proofs.YtlbffbkbkajciaaGreat
namespace Go.Bs
variable{base g n:Nat}{e:TypeId}{v:Value}{w:World}
def FM:Nat→Nat→List UInt8
 | 0,x=>[UInt8.ofNat x]
 | f+1,x=>if x<128 then [UInt8.ofNat x] else UInt8.ofNat (128+x%128)::FM f (x/128)
def A5(x:Nat):List UInt8:=FM 9 x
theorem JD:∀(f g x:Nat),x<128^(f+1)→f≤g→FM f x=FM g x
 | 0,0,_,_,_=>rfl
 | 0,g+1,x,h,_=>by
  have:x<128:=by simpa using h
  simp[FM,this]
 | f+1,0,_,_,h=>by omega
 | f+1,g+1,x,h,hg=>by
  simp only[FM];split
  ·rfl
  ·rw[JD f g (x/128) (by rw[FE] at h;omega) zD]
theorem FN{x:Nat}(h:x<128):A5 x=[UInt8.ofNat x]:=by simp[A5,FM,h]
theorem Ie{x:Nat}(h:¬x<128)(hx:x<2^64):A5 x=UInt8.ofNat (128+x%128)::A5 (x/128):=by
 have e:FM 8 (x/128)=FM 9 (x/128):=JD 8 9 _ zD zD;unfold A5;rw[←e];simp[FM,h]
theorem Bj(x:Nat):(A5 x).length≤10∧1≤(A5 x).length:=by
 have:∀f x,(FM f x).length≤f+1∧1≤(FM f x).length:=by
  intro f;induction f with
  | zero=>intro x;simp[FM]
  | succ f ih=>intro x;simp only[FM];split<;>simp;exact (ih _).1
 exact this 9 x
end Go.Bs
namespace Go.Proofs.YtlbffbkbkajciaaGreat
open Go.RowKit Go.Bs Go.Maps
variable{cells:List (List Value)}{D J J' b l:List UInt8}{cs:List Value}{base c cb cp g gs i lo mb most n p sc sz:Nat}{F S:Nat → Prop}{a a1 ab ap sa:Option Addr}{e t:TypeId}{v vl:Value}{w w' w1:World}
theorem J5(x:Nat)(hx:x<18446744073709551616)(w:World):
  Calls Tryz.prog 249 #[.int .u64 x] w fun r w'=>r=.returned (.int .i64 (A5 x).length)∧Below w.heap.size w w':=by
 go_enter Tryz.func249,Tryz.ntmps249;go_wp2_with fail;go_loopw [0,3] (fun y n wr=>∃v k:Nat,y=.int .u64 v∧n=.int .i64 k∧v<18446744073709551616∧k≤10∧1≤k∧Hid ((A5 x).length+1=k+(A5 v).length)∧Below w.heap.size w wr) (fun y _ _=>(intOf y).toNat)
 case atStart=>exact ⟨x,1,rfl,rfl,hx,zD,zD,hid zD,Below.refl _ _⟩
 case round=>
  obtain⟨v,k,rfl,rfl,hv,hk,hk1,hs,hb⟩:=hrel;by_cases h:v<128
  ·have d1:decide ((128:Int)≤(v:Int))=false:=by simp;omega
   have hf:Hid ((A5 x).length=k):=hid (by have:=hs.out;rw[FN h] at this;simpa using this);go_wp2;go_ret;exact⟨zCf,hb⟩
  ·have d1:decide ((128:Int)≤(v:Int))=true:=by simp;omega
   have hn:Hid ((A5 x).length+1=k+1+(A5 (v/128)).length):=hid (by have:=hs.out;rw[Ie h (by omega)] at this;simp at this;omega);have hk10:k+1≤10:=by have:=hn.out;have:=Bj x;have:=Bj (v/128);omega
   go_wp2_with fail;go_outline
   go_roundw
   case rel=>exact ⟨v/128,k+1,zZ,zZ,zD,zD,zD,hn,hb⟩
   case measure=>simp [intOf];omega
end Go.Proofs.YtlbffbkbkajciaaGreat
namespace Go.Bs
open Go.RowKit
variable{base g n:Nat}{e:TypeId}{v:Value}{w:World}
theorem Gz(hb:base≤g)(h:w.heap[g]? =some (.cells #[v] e (0,0))):w.ownsRow base e 1 (.slice (some ⟨g,0,none⟩) 1 1) 1 [v]:=
 ⟨rfl,.inr ⟨g,1,#[v],rfl,hb,h,Aj _,zS,rfl,rfl⟩⟩
theorem C8(J:List UInt8)(b:UInt8):byteCells J++[.int .u8 (b.toNat:Int)]=byteCells (J++[b]):=zBe
theorem EZ{x:Nat}(h:x<256):(x:Int)=((UInt8.ofNat x).toNat:Int):=by
 simp;omega
theorem Vg:∀n:Nat,n<256→bits .or .u8 (n:Int) 128=128+(n:Int)%128:=zG
theorem U2(v:Nat):bits .or .u8 ((v:Int)%256) 128=((UInt8.ofNat (128+v%128)).toNat:Int):=by
 have h:=Vg (v%256) zD;rw[show (((v%256:Nat)):Int)=(v:Int)%256 by omega] at h;rw[h,←EZ zD];omega
end Go.Bs
namespace Go.Proofs.YtlbffbkbkajciaaGreat
open Go.RowKit Go.Bs Go.Maps
variable{cells:List (List Value)}{D J J' b l:List UInt8}{cs:List Value}{base c cb cp g gs i lo mb most n p sc sz:Nat}{F S:Nat → Prop}{a a1 ab ap sa:Option Addr}{e t:TypeId}{v vl:Value}{w w' w1:World}
theorem MZ(x:Nat)(hx:x<18446744073709551616)(w:World):
  Calls Tryz.prog 147 #[.int .u64 x] w fun r w'=>∃v,r=.returned v∧Ah.r (fun b=>w.heap.size≤b∧b<w'.heap.size) w' [v] (A5 x)∧Below w.heap.size w w':=by
 obtain⟨i0,hi,hz0,hz1,hz2⟩:=Bc Ey;go_enter Tryz.func147,Tryz.ntmps147;go_wp2_with fail;go_loopw [0,3] (fun y o wr=>∃(v:Nat) (J:List UInt8),y=.int .u64 v∧v<18446744073709551616∧wr.ownsRow w.heap.size 5 1 o J.length (byteCells J)∧Hid (A5 x=J++A5 v)∧Below w.heap.size w wr) (fun y _ _=>(intOf y).toNat)
 case atStart=>exact ⟨x,[],rfl,hx,⟨rfl,.inl ⟨rfl,rfl⟩⟩,hid rfl,Below.refl _ _⟩
 case round=>
  obtain⟨v,J,rfl,hv,hown,hs,hb⟩:=hrel;have hbs:=hb.size;have hJ:J.length≤10:=by have h1:=Bj x;rw[hs.out] at h1;simp at h1;omega
  obtain⟨aJ,cJ,rfl⟩:=AX hown;have HO:=hid hown;clear hown;by_cases h:v<128
  ·have d1:decide ((128:Int)≤(v:Int))=false:=by simp;omega
   have hfin:Hid (A5 x=J++[UInt8.ofNat v]):=hid (by rw[hs.out,FN h]);have hby:Hid ((v:Int)=((UInt8.ofNat v).toNat:Int)):=hid (EZ zD);go_wp2_with (at_builtin;go_loud (refine Ar rfl _ _ _ rfl w.heap.size 5 i0 (.int .u8 0) 1 1 AK hi hz0 hz1 hz2 rfl zS (.slice aJ J.length cJ) J.length (byteCells J) rfl (AR HO.out zC) (some ⟨wr.heap.size,0,none⟩) 1 1 [.int .u8 (v:Int)] rfl (Bf wr 5 _ rfl rfl rfl) ZI zR zD zM ?_;intro v' w1 hown1 hgrow1 hat1;have HG:=hid hgrow1;have HO1:=hid hown1;clear hgrow1 hown1 hat1))
   have ho:=HO1.out;rw[hby.out,C8,←hfin.out] at ho;have hlen:J.length+1=(A5 x).length:=by rw[hfin.out];simp
   have hV:=B9 hlen ho;have hB:Below w.heap.size w w1:=Below.grown zC HG.out zM (fun g e=>(HO.out.lt g e).1);have HV:=hid hV;clear ho hlen hV;go_wp2;go_ret;exact⟨_,rfl,HV.out,hB⟩
  ·have d1:decide ((128:Int)≤(v:Int))=true:=by simp;omega
   have hfin:Hid (A5 x=(J++[UInt8.ofNat (128+v%128)])++A5 (v/128)):=hid (by rw[hs.out,Ie h (by omega)];simp);have hor:=U2 v;generalize UInt8.ofNat (128+v%128)=bb at*;go_wp2_with (at_builtin;go_loud (refine Ar rfl _ _ _ rfl w.heap.size 5 i0 (.int .u8 0) 1 1 AK hi hz0 hz1 hz2 rfl zS (.slice aJ J.length cJ) J.length (byteCells J) rfl (AR HO.out zC) (some ⟨wr.heap.size,0,none⟩) 1 1 [.int .u8 (bb.toNat:Int)] rfl (Bf wr 5 _ rfl rfl rfl) ZI zR zD zM ?_;intro v' w1 hown1 hgrow1 hat1;have HG:=hid hgrow1;have HO1:=hid hown1;clear hgrow1 hown1 hat1))
   have ho:=HO1.out;rw[C8] at ho;have hB:Below w.heap.size w w1:=Below.grown zC HG.out zM (fun g e=>(HO.out.lt g e).1);have HO2:=hid ho;clear ho HO1;go_wp2_with fail;go_roundw
   case rel=>exact ⟨v/128,J++[bb],zZ,zD,(by rw[Au];exact HO2.out),hfin,hB⟩
   case measure=>simp [intOf];omega
theorem Hq(x:Nat):∀(hx:x<18446744073709551616) (w:World),
  Calls Tryz.prog 104 #[.int .u64 x] w fun r w'=>∃v,r=.returned v∧Ah.r (fun b=>w.heap.size≤b∧b<w'.heap.size) w' [v] (A5 x)∧Below w.heap.size w w':=by
 induction x using Nat.strongRecOn with
 | ind x ih=>
 intro hx w;obtain⟨i0,hi,hz0,hz1,hz2⟩:=Bc Ey;by_cases h:x<128
 ·have d1:decide ((x:Int)<128)=true:=by simp;omega
  have hfin:Hid (A5 x=[UInt8.ofNat x]):=hid (FN h);have hby:Hid ((x:Int)=((UInt8.ofNat x).toNat:Int)):=hid (EZ zD);have HIH:=hid ih;clear ih;go_enter Tryz.func104,Tryz.ntmps104;go_wp2_with fail;have e0:[Value.int .u8 (x:Int)]=byteCells (A5 x):=by rw[hfin.out,hby.out];rfl
  have ho:(w.alloc (.cells #[.int .u8 (x:Int)] 5)).ownsRow w.heap.size 5 1 (.slice (some ⟨w.heap.size,0,none⟩) 1 1) 1 (byteCells (A5 x)):=e0 ▸ Gz (w:=w.alloc (.cells #[.int .u8 (x:Int)] 5)) (base:=w.heap.size) (e:=5) (Aj _) (EM w _);have hV:=B9 (l:=A5 x) (n:=1) ZJ ho;have HV:=hid hV;clear ho e0 hV;go_ret;exact⟨_,rfl,HV.out,zC⟩
 ·have d1:decide ((x:Int)<128)=false:=by simp;omega
  have HIH:=hid (fun (W:World)=>ih (x/128) zD zD W);clear ih;rw[show ((x/128:Nat):Int)=(x:Int)/128 by omega] at HIH;have hfin:Hid (A5 x=[UInt8.ofNat (128+x%128)]++A5 (x/128)):=hid (by rw[Ie h (by omega)];rfl);have hby:Hid (128+(x:Int)%128=((UInt8.ofNat (128+x%128)).toNat:Int)):=hid zB2;have hlb:=Bj (x/128);go_enter Tryz.func104,Tryz.ntmps104;go_wp2_with fail;refine (HIH.out _).mono ?_;rintro r w1 ⟨v1,rfl,hr1,hb1⟩;have ho:=Gz (w:=w.alloc (.cells #[.int .u8 (128+(x:Int)%128)] 5)) (base:=w.heap.size) (e:=5) (Aj _) (EM w _);have ho1:=AR ho hb1;obtain⟨a1,c1,hv1,hr2,_⟩:=At hr1;simp only[Ai,As] at hv1;subst hv1;have hr3:=BZ (Ah.mono hr2 (S':=(·<w1.heap.size)) fun b hb=>hb.2);have HS:=hid hr3;have HO:=hid ho1;have HONE:=hid (Bd (A5 (x/128)));have hz1w:w.heap.size+1≤w1.heap.size:=zCc;have hbw1:Below w.heap.size w w1:=zC;clear hr1 hr2 hr3 ho ho1;go_wp2_with (at_builtin;go_loud (refine Ar rfl _ _ _ rfl w.heap.size 5 i0 (.int .u8 0) 1 1 AK hi hz0 hz1 hz2 rfl zS (.slice (some ⟨w.heap.size,0,none⟩) 1 1) 1 _ rfl HO.out a1 (A5 (x/128)).length c1 (byteCells (A5 (x/128))) rfl HS.out HONE.out zR zD zD ?_;intro v' w2 hown2 hgrow2 hat2;have HG:=hid hgrow2;have HO2:=hid hown2;clear hgrow2 hown2 hat2))
  have ho:=HO2.out;rw[hby.out,show [Value.int .u8 ((UInt8.ofNat (128+x%128)).toNat:Int)]=byteCells [UInt8.ofNat (128+x%128)] from rfl,byteCells,byteCells,←List.map_append,←hfin.out] at ho;have hV:=B9 (by rw[hfin.out];simp;omega) ho;have hB:Below w.heap.size w w2:=Below.grown hbw1 HG.out zD (fun g e=>(HO.out.lt g e).1);have HV:=hid hV;clear ho hV;go_ret;exact⟨_,rfl,HV.out,hB⟩
structure Cl(w:World)(g base most:Nat)(J:List UInt8)(a:Option Addr)(c:Nat):Prop where
 blk:Blk w g 87 #[.int .i64 most,.slice a J.length c,.int .i64 0]
 own:w.ownsRow base 5 1 (.slice a J.length c) J.length (byteCells J)
 ne:(Value.slice a J.length c).ownBlock≠some g
 lo:base≤g
 le:J.length≤most
 most:most≤4611686018427387904
 len:J.length≤100000000000000
def DH(g:Nat)(a:Option Addr)(q:Nat):Prop:=q=g∨∃p,a=some p∧p.block=q
theorem JI:(Value.slice a n c).ownBlock=a.map Addr.block:=by cases a<;>rfl
def Ay(w:World)(g base most:Nat)(J':List UInt8)(a:Option Addr)(w':World):Prop:=
 ∃a' c',Cl w' g base most J' a' c'∧Tch (DH g a) w w'∧(a'.map Addr.block=a.map Addr.block∨∃q,a'.map Addr.block=some q∧w.heap.size≤q)
theorem Ay.refl(h:Cl w g base most J a c):Ay w g base most J a w:=⟨a,c,h,Tch.refl _ _,.inl rfl⟩
theorem Fy{q:Nat}:DH g a q↔q=g∨a.map Addr.block=some q:=by unfold DH;simp
theorem Ay.trans{w2:World}{J:List UInt8}(h1:Tch (DH g a) w w1)(h2:a1.map Addr.block=a.map Addr.block∨∃q,a1.map Addr.block=some q∧w.heap.size≤q)(k:Ay w1 g base most J' a1 w2):Ay w g base most J' a w2:=by
 obtain⟨a2,c2,k1,k2,k3⟩:=k;have hs:=h1.size;refine⟨a2,c2,k1,h1.trans k2 fun q hq e=> ?_,?_⟩
 ·rw[Fy] at e ⊢
  rcases e with e | e
  ·exact .inl e
  ·rcases h2 with h2 | ⟨q',h2,h3⟩
   ·exact .inr (h2 ▸ e)
   ·rw[h2] at e;simp at e;omega
 ·rcases k3 with k3 | ⟨q,k3,k4⟩
  ·rcases h2 with h2 | ⟨q',h2,h3⟩
   ·exact .inl (k3.trans h2)
   ·exact .inr ⟨q',k3.trans h2,h3⟩
  ·exact .inr ⟨q,k3,zD⟩
theorem Ay.later{w2:World}(h:Below w.heap.size w w1)(k:Ay w1 g base most J' a w2):Ay w g base most J' a w2:=Ay.trans (J:=J') (Tch.Ce h) (.inl rfl) k
theorem Cl.later(h:Cl w g base most J a c)(hb:Below w.heap.size w w1):Cl w1 g base most J a c:=
 ⟨h.blk.later hb,AR h.own hb,h.ne,h.lo,h.le,h.most,h.len⟩
theorem Cl.new(w:World)(most:Nat)(hm:most≤4611686018427387904):Cl (w.alloc (.cells #[.int .i64 most,.slice none 0 0,.int .i64 0] 87)) w.heap.size w.heap.size most [] none 0:=
 ⟨Blk.new w _ _,⟨rfl,.inl ⟨rfl,rfl⟩⟩,zAr,Aj _,Ao _,hm,Ao _⟩
theorem Jd(w:World)(h:Cl w g base most J a c):
  Calls Tryz.prog 79 #[.pointer (some ⟨g,0,none⟩)] w fun r w'=>r=.returned (.int .i64 0)∧w=w':=by
 have c2:w.cell? ⟨g,2,none⟩=some (.int .i64 0):=h.blk.cell 2;clear h;go_enter Tryz.func79,Tryz.ntmps79;go_wp2;go_ret;exact⟨rfl,rfl⟩
theorem Tc(w:World){most:Nat}{J:List UInt8}(h:Cl w g base most J a c):
  Calls Tryz.prog 148 #[.pointer (some ⟨g,0,none⟩)] w fun r w'=>r=.returned (.int .i64 ((most:Int)-J.length))∧Below w.heap.size w w':=by
 have C0:=fun s:AS w=>s.cell (h.blk.cell 0);have C1:=fun s:AS w=>s.cell (h.blk.cell 1);simp at C0 C1;have hle:=h.le;have hmo:=h.most;clear h;go_enter Tryz.func148,Tryz.ntmps148;go_wp2_with fail;refine AI zL zL ?_;repeat (go_big_quiet_step (fail))
 refine A8 ?_;rintro W5 ⟨⟨W5',hb5⟩,rfl⟩;go_wp2;go_ret;exact⟨zBo,hb5⟩
theorem Jc(w:World)(most:Nat)(hm:most≤4611686018427387904):
  Calls Tryz.prog 15 #[.int .i64 most] w fun r w'=>r=.returned (.pointer (some ⟨w.heap.size,0,none⟩))∧Cl w' w.heap.size w.heap.size most [] none 0∧Below w.heap.size w w':=by
 have hN:=hid (Cl.new w most hm);have d1:max (most:Int) 0=most:=zD;have d2:(if (most:Int)<0 then (0:Int) else most)=most:=zAh;go_enter Tryz.func15,Tryz.ntmps15;go_wp2;go_ret;exact⟨rfl,hN.out,zC⟩
theorem Td{w2:World}{a':Option Addr}{c':Nat}(h:Cl w1 g base most J a c)(hfit:J.length+D.length≤most)(hlen:J.length+D.length≤100000000000000)
 (hown:w2.ownsRow base 5 1 (.slice a' (J.length+D.length) c') (J.length+D.length) (byteCells J++byteCells D)) (hgrow:w1.grownBy w2 (Value.slice a J.length c).ownBlock)
 (hat:(Value.slice a' (J.length+D.length) c').ownBlock=(Value.slice a J.length c).ownBlock∨(Value.slice a' (J.length+D.length) c').ownBlock=some w1.heap.size):
  Ay w1 g base most (J++D) a (w2.setCell ⟨g,1,none⟩ (.slice a' (J.length+D.length) c')):=by
 have hg:=h.blk.lt;have hs:=hgrow.size;have hn2:(Value.slice a' (J.length+D.length) c').ownBlock≠some g:=fun e=>by
  rcases hat with h1 | h1
  ·rw[h1] at e;exact h.ne e
  ·rw[h1] at e;simp at e;omega
 have hsz:(w2.setCell ⟨g,1,none⟩ (.slice a' (J.length+D.length) c')).heap.size=w2.heap.size:=ZQ;have hll:(J++D).length=J.length+D.length:=Au;have hbb:byteCells (J++D)=byteCells J++byteCells D:=zBe;refine⟨a',c',⟨?_,?_,?_,h.lo,zD,h.most,zD⟩,?_,?_⟩
 ·rw[hll]
  exact (h.blk.grown hgrow (fun e=>h.ne e.symm)).set 1 _
 ·rw[hll,hbb]
  exact FR hown fun q hq=>Ap w2 _ _ q (fun e=>hn2 (by rw[hq,e]))
 ·rw[hll];exact hn2
 ·refine⟨hgrow.os,hgrow.tape,hgrow.output,by rw[hsz];exact hs,fun q hq hf=> ?_⟩
  rw[Fy] at hf;exact (Ap w2 _ _ q (fun e=>hf (.inl e))).trans (hgrow.block q hq (fun e=>hf (.inr (by rw[JI] at e;exact e.symm))))
 ·rw[JI,JI] at hat
  rcases hat with h1 | h1
  ·exact .inl h1
  ·exact .inr ⟨_,h1,Aj _⟩
theorem E0(w:World){g base most:Nat}{J:List UInt8}{a:Option Addr}(h:Cl w g base most J a c)(D:List UInt8)(ad:Option Addr)(nd cd:Nat)(hD:Ah.r (·<w.heap.size) w [.slice ad nd cd] D)(hfit:J.length+D.length≤most)(hlen:J.length+D.length≤100000000000000):
  Calls Tryz.prog 68 #[.pointer (some ⟨g,0,none⟩),.slice ad nd cd] w fun r w'=>r=.returned (.tuple #[])∧Ay w g base most (J++D) a w':=by
 obtain⟨rfl,hm,_,_⟩:=AU hD;obtain⟨i0,hi,hz0,hz1,hz2⟩:=Bc Ey;have HC:=hid (Jd w h);have HR:=hid (Tc w h);have HP:=hid h;have HD:=hid hD;have HONE:=hid (Bd D);have hmo:=h.most;have d1:decide ((most:Int)-(J.length:Int)<(D.length:Int))=false:=zM;clear h hD;go_enter Tryz.func68,Tryz.ntmps68;go_wp2_with fail;refine HC.out.mono ?_;rintro r w0 ⟨rfl,rfl⟩;go_wp2_with fail;refine HR.out.mono ?_;rintro r w1 ⟨rfl,hb1⟩;have hP1:=HP.out.later hb1;have c1:w1.cell? ⟨g,1,none⟩=some (.slice a J.length c):=hP1.blk.cell 1;have hg1:=hP1.blk.lt;have f1:=hP1.blk.free 1;have hne:=hP1.ne;have hlo:=hP1.lo;have HP1:=hid hP1;have HS:=hid (BZ (lift HD.out hb1));clear hP1;go_wp2_with (at_builtin;go_loud (refine Ar rfl _ _ _ rfl base 5 i0 (.int .u8 0) 1 1 AK hi hz0 hz1 hz2 rfl zS (.slice a J.length c) J.length (byteCells J) rfl HP1.out.own ad D.length cd (byteCells D) rfl HS.out HONE.out zR zD zD ?_;intro v' w2 hown2 hgrow2 hat2;obtain⟨a',c',rfl⟩:=AX hown2;have f2:=(Cx (a:=⟨g,1,none⟩) (hgrow2.block g hg1 (fun e=>hne e.symm))).trans f1;have e2:=(Bq (a:=⟨g,1,none⟩) (hgrow2.block g hg1 (fun e=>hne e.symm))).trans c1;have hz2':g<w2.heap.size:=Am hg1 hgrow2.size;have HG:=hid hgrow2;have HO:=hid hown2;have HAT:=hid hat2;clear hgrow2 hown2 hat2))
 have hst:=Ay.later hb1 (Td HP1.out hfit hlen HO.out HG.out HAT.out);have HST:=hid hst;clear hst;go_wp2;go_end0
 exact⟨rfl,HST.out⟩
theorem Ih(w:World){J:List UInt8}(h:Cl w g base most J a c):
  Calls Tryz.prog 17 #[.pointer (some ⟨g,0,none⟩)] w fun r w'=>∃v,r=.returned (.tuple #[v,.int .i64 0])∧Ah.r (fun q=>w.heap.size≤q∧q<w'.heap.size) w' [v] J∧Below w.heap.size w w':=by
 obtain⟨i0,hi,hz0,hz1,hz2⟩:=Bc Ey;have HC:=hid (Jd w h);have hB:=B9 rfl h.own;obtain⟨_,hm,_,_⟩:=AU hB;have HD:=hid (Ah.mono hB (S':=(·<w.heap.size)) fun q hq=>hq.2);have HONE:=hid (Bd J);have c1:w.cell? ⟨g,1,none⟩=some (.slice a J.length c):=h.blk.cell 1;have hg1:=h.blk.lt;have hle:=h.le;have hmo:=h.most;have hle14:=h.len;clear h hB;go_enter Tryz.func17,Tryz.ntmps17;go_wp2_with fail;refine HC.out.mono ?_;rintro r w0 ⟨rfl,rfl⟩;go_wp2_with (at_builtin;go_loud (refine Ar rfl _ _ _ rfl w.heap.size 5 i0 (.int .u8 0) 1 1 AK hi hz0 hz1 hz2 rfl zS _ 0 [] rfl (EW _ (Aj _) rfl) a J.length c (byteCells J) rfl (BZ (lift HD.out zC)) HONE.out zR zD zP ?_;intro v' w1 hown1 hgrow1 hat1;rw[Cb,BU] at hown1;obtain⟨a',c',rfl⟩:=AX hown1;have HG:=hid hgrow1;have HO:=hid hown1;clear hgrow1 hown1 hat1))
 have hA:=B9 rfl HO.out;have hb1:Below w.heap.size w w1:=Below.grown zC HG.out zP (fun g e=>by
  have e':some w.heap.size=some g:=e;injection e' with e';omega)
 have HA:=hid hA;clear hA;go_ret2
 exact⟨_,rfl,HA.out,hb1⟩
def Ct(t:Tok):Bool:=EP t || Gk t
theorem J7(x:Tok)(a:Option Addr)(c:Nat)(w:World)(hl:x.lit.length≤9223372036854775807)(h1: -9223372036854775808≤x.off∧x.off≤9223372036854775807)(h2: -9223372036854775808≤x.len∧x.len≤9223372036854775807):
  Calls Tryz.prog 277 #[.agg #[.slice a x.lit.length c,.int .i64 x.off,.int .i64 x.len]] w fun r w'=>r=.returned (.bool (Ct x))∧Below w.heap.size w w':=by
 obtain⟨D,o,m⟩:=x;dsimp only at*;by_cases k0:o=0
 ·skip
  have k0_0:(o==0)=true:=beq_iff_eq.2 zD;by_cases k1:m=0
  ·skip
   have k1_0:(m==0)=true:=beq_iff_eq.2 zD;by_cases k2:1≤D.length
   ·skip
    have k2_0:decide ((1:Int)≤(D.length:Int))=true:=Ae zD;have k2_1:decide (1≤D.length)=true:=Ae zD;by_cases k3:D.length≤1048576
    ·skip
     have k3_0:decide ((D.length:Int)≤1048576)=true:=Ae zD;have k3_1:decide (D.length≤1048576)=true:=Ae zD;have hff:Hid (Ct ⟨D,o,m⟩=true):=hid (by simp only[Ct,EP,Gk,C4,AL,AN];first | omega | (simp;omega));clear hl h1 h2;go_enter FD,ER;go_wp2;go_ret;exact⟨zQ,zC⟩
    ·skip
     have k3_0:decide ((D.length:Int)≤1048576)=false:=Ad zD;have k3_1:decide (D.length≤1048576)=false:=Ad zD;have hff:Hid (Ct ⟨D,o,m⟩=false):=hid (by rw[←Fp];simp only[Ct,EP,Gk,C4,AL,AN];first | omega | (simp;omega));clear hl h1 h2;go_enter FD,ER;go_wp2;go_ret;exact⟨zQ,zC⟩
   ·skip
    have k2_0:decide ((1:Int)≤(D.length:Int))=false:=Ad zD;have k2_1:decide (1≤D.length)=false:=Ad zD;have hff:Hid (Ct ⟨D,o,m⟩=false):=hid (by rw[←Fp];simp only[Ct,EP,Gk,C4,AL,AN];first | omega | (simp;omega));clear hl h1 h2;go_enter FD,ER;go_wp2;go_ret;exact⟨zQ,zC⟩
  ·skip
   have k1_0:(m==0)=false:=beq_eq_false_iff_ne.2 zD;have hff:Hid (Ct ⟨D,o,m⟩=false):=hid (by rw[←Fp];simp only[Ct,EP,Gk,C4,AL,AN];first | omega | (simp;omega));clear hl h1 h2;go_enter FD,ER;go_wp2;go_ret;exact⟨zQ,zC⟩
 ·skip
  have k0_0:(o==0)=false:=beq_eq_false_iff_ne.2 zD;by_cases k4:0<D.length
  ·skip
   have k4_0:decide ((0:Int)<(D.length:Int))=true:=Ae zD;have k4_1:decide (0<D.length)=true:=Ae zD;have hff:Hid (Ct ⟨D,o,m⟩=false):=hid (by rw[←Fp];simp only[Ct,EP,Gk,C4,AL,AN];first | omega | (simp;omega));clear hl h1 h2;go_enter FD,ER;go_wp2;go_ret;exact⟨zQ,zC⟩
  ·skip
   obtain rfl:D=[]:=AP zD;simp only[Bz] at*;by_cases k5:o<0
   ·skip
    have k5_0:decide (o<0)=true:=Ae zD;have hff:Hid (Ct ⟨[],o,m⟩=false):=hid (by rw[←Fp];simp only[Ct,EP,Gk,C4,AL,AN,Bz];first | omega | (simp;omega));clear hl h1 h2;go_enter FD,ER;go_wp2;go_ret;exact⟨zQ,zC⟩
   ·skip
    have k5_0:decide (o<0)=false:=Ad zD;by_cases k6:65536<o
    ·skip
     have k6_0:decide ((65536:Int)<o)=true:=Ae zD;have hff:Hid (Ct ⟨[],o,m⟩=false):=hid (by rw[←Fp];simp only[Ct,EP,Gk,C4,AL,AN,Bz];first | omega | (simp;omega));clear hl h1 h2;go_enter FD,ER;go_wp2;go_ret;exact⟨zQ,zC⟩
    ·skip
     have k6_0:decide ((65536:Int)<o)=false:=Ad zD;by_cases k7:4≤m
     ·skip
      have k7_0:decide ((4:Int)≤m)=true:=Ae zD;by_cases k8:m≤1048576
      ·skip
       have k8_0:decide (m≤1048576)=true:=Ae zD;have hff:Hid (Ct ⟨[],o,m⟩=true):=hid (by simp only[Ct,EP,Gk,C4,AL,AN,Bz];first | omega | (simp;omega));clear hl h1 h2;go_enter FD,ER;go_wp2;go_ret;exact⟨zQ,zC⟩
      ·skip
       have k8_0:decide (m≤1048576)=false:=Ad zD;have hff:Hid (Ct ⟨[],o,m⟩=false):=hid (by rw[←Fp];simp only[Ct,EP,Gk,C4,AL,AN,Bz];first | omega | (simp;omega));clear hl h1 h2;go_enter FD,ER;go_wp2;go_ret;exact⟨zQ,zC⟩
     ·skip
      have k7_0:decide ((4:Int)≤m)=false:=Ad zD;have hff:Hid (Ct ⟨[],o,m⟩=false):=hid (by rw[←Fp];simp only[Ct,EP,Gk,C4,AL,AN,Bz];first | omega | (simp;omega));clear hl h1 h2;go_enter FD,ER;go_wp2;go_ret;exact⟨zQ,zC⟩
theorem DQ(w:World){g base most:Nat}{J:List UInt8}{a:Option Addr}(h:Cl w g base most J a c)(x:Nat)(hx:x<18446744073709551616)(hfit:J.length+(A5 x).length≤most)(hlen:J.length+(A5 x).length≤100000000000000):
  Calls Tryz.prog 66 #[.pointer (some ⟨g,0,none⟩),.int .u64 x] w fun r w'=>r=.returned (.tuple #[])∧Ay w g base most (J++A5 x) a w':=by
 have HV:=hid (MZ x hx w);have HP:=hid h;clear h;go_enter Tryz.func66,Tryz.ntmps66;go_wp2_with fail;refine HV.out.mono ?_;rintro r w1 ⟨v,rfl,hr,hb1⟩;obtain⟨a1,c1,hv,hr2,_⟩:=At hr;simp only[Ai,As] at hv;subst hv;have HQ:=hid (E0 w1 (HP.out.later hb1) (A5 x) a1 _ c1 (Ah.mono hr2 fun q hq=>hq.2) hfit hlen);clear hr hr2;go_wp2_with fail;refine HQ.out.mono ?_;rintro r w2 ⟨rfl,hst⟩;have HST:=hid (Ay.later hb1 hst);clear hst;go_wp2;first | go_end0 | refine Af (Av rfl _ _ _) rfl ?_
 exact⟨rfl,HST.out⟩
def Iz(t:Tok):List UInt8:=if EP t then A5 (2*t.lit.length-2)++t.lit else A5 (2*t.len.toNat-7)++A5 (t.off.toNat-1)
theorem NM(D:List UInt8)(h1:1≤D.length)(h2:D.length≤1048576):Iz ⟨D,0,0⟩=A5 (2*D.length-2)++D:=by
 unfold Iz;rw[An];simp[EP];omega
theorem Md(o m:Nat)(h1:1≤o):Iz ⟨[],(o:Int),(m:Int)⟩=A5 (2*m-7)++A5 (o-1):=by
 unfold Iz;rw[Ak]
 ·simp
 ·simp[EP]
theorem Cl.Dm(h:Cl w g base most J a c){q:Nat}(hq:DH g a q):base≤q∧q<w.heap.size:=by
 rcases hq with rfl | ⟨p,hp,rfl⟩
 ·exact⟨h.lo,h.blk.lt⟩
 ·subst hp
  exact h.own.lt _ rfl
theorem LR(w:World){g base most:Nat}{J:List UInt8}{a:Option Addr}(h:Cl w g base most J a c)(D:List UInt8)(h1:1≤D.length)(h2:D.length≤1048576)(ad:Option Addr)(cd:Nat)
 (hD:Ah.r (fun q=>q<w.heap.size∧¬DH g a q) w [.slice ad D.length cd] D) (hfit:J.length+(Iz ⟨D,0,0⟩).length≤most) (hlen:J.length+(Iz ⟨D,0,0⟩).length≤100000000000000):
  Calls Tryz.prog 268 #[.pointer (some ⟨g,0,none⟩),.agg #[.slice ad D.length cd,.int .i64 0,.int .i64 0]] w fun r w'=>r=.returned (.tuple #[])∧Ay w g base most (J++Iz ⟨D,0,0⟩) a w':=by
 have HR:=hid (fun (W:World)=>J7 ⟨D,0,0⟩ ad cd W zH ⟨zP,zP⟩ ⟨zP,zP⟩);have hr:Ct ⟨D,0,0⟩=true:=by simp[Ct,EP];omega
 rw[hr] at HR;have hT:=NM D h1 h2;rw[hT] at hfit hlen ⊢;rw[Au] at hfit hlen;have HV:=hid (fun (W:World) (hW:Below w.heap.size w W)=>DQ W (h.later hW) (2*D.length-2) zD zD zD);have hno:=fun q (hq:DH g a q)=>(h.Dm hq).2;have HNO:=hid hno;have HD:=hid hD;have hfit':=hid hfit;have hlen':=hid hlen;have e0:(((2*D.length-2:Nat)):Int)=((D.length:Int)-1)*2:=zD;rw[e0] at HV;clear hr hT h hD hno hfit hlen;go_enter Tryz.func268,Tryz.ntmps268;go_wp2_with fail;refine (HR.out _).mono ?_;rintro r w1 ⟨rfl,hb1⟩;have B1:Blk w1 w.heap.size 225 #[.slice ad D.length cd,.int .i64 0,.int .i64 0]:=(Blk.new w _ _).later hb1;have x0:w1.cell? ⟨w.heap.size,0,none⟩=some (.slice ad D.length cd):=B1.cell 0;have x1:w1.cell? ⟨w.heap.size,1,none⟩=some (.int .i64 0):=B1.cell 1;have hbw1:Below w.heap.size w w1:=zC;go_wp2_with fail;refine (HV.out _ hbw1).mono ?_;rintro r w2 ⟨rfl,a2,c2,hp2,ht2,ha2⟩;have B2:=B1.tch ht2 (fun hf=>by have:=HNO.out _ hf;omega);have y0:w2.cell? ⟨w.heap.size,0,none⟩=some (.slice ad D.length cd):=B2.cell 0;have hs1:=hbw1.size;have hD2:Ah.r (·<w2.heap.size) w2 [.slice ad D.length cd] D:=Ah.mono (Ah.keep HD.out fun q hq=>(ht2.block q zD hq.2).trans (hbw1.block q hq.1)) fun q hq=>Am hq.1 (by have:=ht2.size;omega);have HQ:=hid (E0 w2 hp2 D ad _ cd hD2 zBi zBh);clear x0 x1 hD2;go_wp2_with fail;refine HQ.out.mono ?_;rintro r w3 ⟨rfl,hst⟩;have hst2:=Ay.later hbw1 (Ay.trans (J:=J) ht2 ha2 hst);rw[CF] at hst2;have HST:=hid hst2;clear hst hst2;go_wp2;first | go_end0 | refine Af (Av rfl _ _ _) rfl ?_
 exact⟨rfl,HST.out⟩
theorem KY(w:World){g base most:Nat}{J:List UInt8}(h:Cl w g base most J a c)(o m:Nat)(h1:1≤o)(h2:o≤65536)(h3:4≤m)(h4:m≤1048576)(ad:Option Addr)(cd:Nat)
 (hfit:J.length+(Iz ⟨[],(o:Int),(m:Int)⟩).length≤most) (hlen:J.length+(Iz ⟨[],(o:Int),(m:Int)⟩).length≤100000000000000):
  Calls Tryz.prog 268 #[.pointer (some ⟨g,0,none⟩),.agg #[.slice ad 0 cd,.int .i64 o,.int .i64 m]] w fun r w'=>r=.returned (.tuple #[])∧Ay w g base most (J++Iz ⟨[],(o:Int),(m:Int)⟩) a w':=by
 have HR:=hid (fun (W:World)=>J7 ⟨[],(o:Int),(m:Int)⟩ ad cd W zP zH zH);have hr:Ct ⟨[],(o:Int),(m:Int)⟩=true:=by simp[Ct,Gk];omega
 rw[hr] at HR;have hT:=Md o m h1;rw[hT] at hfit hlen ⊢;rw[Au] at hfit hlen;have HV:=hid (fun (W:World) (hW:Below w.heap.size w W)=>DQ W (h.later hW) (2*m-7) zD zD zD);have hno:=fun q (hq:DH g a q)=>(h.Dm hq).2;have HNO:=hid hno;have hfit':=hid hfit;have hlen':=hid hlen;have e0:(((2*m-7:Nat)):Int)=((m:Int)-4)*2+1:=zD;rw[e0] at HV;have d1:((o:Int)==0)=false:=zM;have d2:(o==0)=false:=zM;simp only[Bz] at HR;clear hr hT h hno hfit hlen;go_enter Tryz.func268,Tryz.ntmps268;go_wp2_with fail;refine (HR.out _).mono ?_;rintro r w1 ⟨rfl,hb1⟩;have B1:Blk w1 w.heap.size 225 #[.slice ad 0 cd,.int .i64 o,.int .i64 m]:=(Blk.new w _ _).later hb1;have x1:w1.cell? ⟨w.heap.size,1,none⟩=some (.int .i64 o):=B1.cell 1;have x2:w1.cell? ⟨w.heap.size,2,none⟩=some (.int .i64 m):=B1.cell 2;have hbw1:Below w.heap.size w w1:=zC;go_wp2_with fail;refine (HV.out _ hbw1).mono ?_;rintro r w2 ⟨rfl,a2,c2,hp2,ht2,ha2⟩;have B2:=B1.tch ht2 (fun hf=>by have:=HNO.out _ hf;omega);have y1:w2.cell? ⟨w.heap.size,1,none⟩=some (.int .i64 o):=B2.cell 1;have HQ:=hid (DQ w2 hp2 (o-1) zD zBi zBh);rw[show ((o-1:Nat):Int)=(o:Int)-1 by omega] at HQ;clear x1 x2;go_wp2_with fail;refine HQ.out.mono ?_;rintro r w3 ⟨rfl,hst⟩;have hst2:=Ay.later hbw1 (Ay.trans (J:=J) ht2 ha2 hst);rw[CF] at hst2;have HST:=hid hst2;clear hst hst2;go_wp2;first | go_end0 | refine Af (Av rfl _ _ _) rfl ?_
 exact⟨rfl,HST.out⟩
def Fc(xs:List Tok):Nat:=(xs.map fun t=>t.lit.length+20).sum
def Cy(xs:List Tok):List UInt8:=(xs.map Iz).flatten
theorem K9(xs:List Tok)(k:Nat)(h:k<xs.length):Fc (xs.take (k+1))=Fc (xs.take k)+(xs[k].lit.length+20):=by
 unfold Fc;rw[EO h,List.map_append,List.sum_append];simp
theorem IZ(xs:List Tok)(k:Nat)(h:k<xs.length):Cy (xs.take (k+1))=Cy (xs.take k)++Iz xs[k]:=by
 unfold Cy;rw[EO h,List.map_append,List.flatten_append];simp
theorem I6(xs:List Tok)(hL:∀t∈xs,t.lit.length≤1048576)(k:Nat)(hk:k≤xs.length):Fc (xs.take k)≤k*1048596:=by
 induction k with
 | zero=>simp [Fc]
 | succ k ih=>
  rw[K9 xs k zD];have:=ih zD;have:=hL _ (Da (show k<xs.length by omega));omega
theorem Pr(xs:List Tok)(k:Nat):Fc (xs.take k)≤Fc xs:=by
 have:Fc xs=Fc (xs.take k)+Fc (xs.drop k):=by
  unfold Fc;conv=>lhs;rw[←List.take_append_drop k xs]
  rw[List.map_append,List.sum_append]
 omega
theorem SG(t:Tok):(Iz t).length≤t.lit.length+20:=by
 unfold Iz;split
 ·rw[Au];have:=Bj (2*t.lit.length-2);omega
 ·rw[Au];have:=Bj (2*t.len.toNat-7);have:=Bj (t.off.toNat-1);omega
theorem Hg(xs:List Tok):(Cy xs).length≤Fc xs:=by
 unfold Cy Fc;induction xs with
 | nil=>simp
 | cons t xs ih=>simp only[List.map_cons,List.flatten_cons,Au,List.sum_cons];have:=SG t;omega
theorem Rq:(A5 18446744073709551615).length=10:=zG
theorem Fe{t:Tok}(h:Ct t=true):(∃D,t=⟨D,0,0⟩∧1≤D.length∧D.length≤1048576)∨∃o m:Nat,t=⟨[],(o:Int),(m:Int)⟩∧1≤o∧o≤65536∧4≤m∧m≤1048576:=by
 obtain⟨D,o,m⟩:=t;simp only[Ct,EP,Gk,C4,AL,AN] at h;rcases h with ⟨rfl,rfl,h1,h2⟩ | ⟨h0,h1,h2,h3,h4⟩
 ·exact .inl ⟨D,rfl,h1,h2⟩
 ·refine .inr ⟨o.toNat,m.toNat,?_,zD,zD,zD,zD⟩
  rw[AP h0,Int.toNat_of_nonneg zD,Int.toNat_of_nonneg zD]
theorem O9(xs:List Tok)(a:Option Addr)(n c:Nat)(w:World)(hl:Kj.r (·<w.heap.size) w [.slice a n c] xs)(hx:xs.length≤10000000)(hL:∀t∈xs,t.lit.length≤1048576):
  Calls Tryz.prog 267 #[.slice a n c] w fun r w'=>r=.returned (.int .i64 (Fc xs))∧Below w.heap.size w w':=by
 obtain⟨rfl,hm,_,_⟩:=AU hl;have HL:=hid hl;clear hl;go_enter Tryz.func267,Tryz.ntmps267;go_wp2_with fail;go_loopw [3,8] (fun s i wr=>∃k:Nat,k≤xs.length∧i=.int .i64 k∧(∃t:Nat,s=.int .i64 t∧Hid (t=Fc (xs.take k)))∧Below w.heap.size w wr) (fun _ i _=>xs.length-(intOf i).toNat)
 case atStart=>exact ⟨0,Ao _,rfl,⟨0,rfl,hid (by simp[Fc])⟩,Below.refl _ _⟩
 case round=>
  obtain⟨k,hk,rfl,⟨t,rfl,ht⟩,hb⟩:=hrel;rcases Bm k xs.length with hlt | hge
  ·obtain⟨b,o,hA,hbb,a2,c2,x0,x1,x2,_,_,_⟩:=M5 HL.out hlt
   subst hA;have X0:=(hb.cell (p:=⟨b,o+k*3,none⟩) hbb).trans x0;have X1:=(hb.cell (p:=⟨b,o+k*3+1,none⟩) hbb).trans x1;have X2:=(hb.cell (p:=⟨b,o+k*3+2,none⟩) hbb).trans x2;have hn:=hid (K9 xs k hlt);have hle:=I6 xs hL k zD;have hD:=hL _ (Da hlt);rw[←ht.out] at hle;clear x0 x1 x2;generalize xs[k]=y at*;obtain⟨D,yo,ym⟩:=y;dsimp only at*;have hbs:=hb.size;have i1:(k:Int)<(xs.length:Int):=zD;go_wp2_with fail;refine Cm (fun W=>Below wr.heap.size wr W∧wr.heap.size<W.heap.size∧W.cell? ⟨wr.heap.size,0,none⟩=some (.slice a2 D.length c2)) ⟨zC,zP,zCu⟩ ?_;intro W ⟨hbW,hzW,u0⟩;have U0:=fun s:AS W=>s.cell u0;have HS:=hid (fun s:AS W=>J5 18446744073709551615 zD s.at_);rw[Rq] at HS;have hbw:=Ag hbW hb;clear X0 X1 X2 u0;refine AI zL zL ?_;repeat (go_big_quiet_step (((go_at_call 249;exact Bv (HS.out _)))))
   refine A8 ?_;rintro W5 ⟨⟨W5',hb5⟩,rfl⟩;go_wp2;go_roundw
   case rel=>exact ⟨k+1,zD,zZ,⟨t+(D.length+20),zZ,hid (by rw[hn.out,ht.out])⟩,Ag hb5 hbw⟩
   case measure=>simp [intOf];omega
  ·obtain rfl:k=xs.length:=by omega
   rw[KF] at ht;go_wp2;go_ret;exact⟨by rw[←ht.out];rfl,hb⟩
theorem Cl.below{B:Nat}(h:Cl w g base most J a c)(hB:B≤base)(hB2:B≤w.heap.size)(k:Ay w g base most J' a w'):Below B w w':=by
 obtain⟨a',c',k1,k2,k3⟩:=k;exact k2.Ba hB2 fun b _ hb=>A4 hB (h.Dm hb).1
theorem NL(xs:List Tok)(a:Option Addr)(n c:Nat)(w:World)(hl:Kj.r (·<w.heap.size) w [.slice a n c] xs)(hx:xs.length≤10000000)(hR:∀t∈xs,Ct t=true):
  Calls Tryz.prog 248 #[.slice a n c] w fun r w'=>∃v,r=.returned (.tuple #[v,.int .i64 0])∧Ah.r (fun q=>w.heap.size≤q∧q<w'.heap.size) w' [v] (Cy xs)∧Below w.heap.size w w':=by
 obtain⟨rfl,hm,_,_⟩:=AU hl;have hL:∀t∈xs,t.lit.length≤1048576:=fun t ht=>by
  rcases Fe (hR t ht) with ⟨D,rfl,h1,h2⟩ | ⟨o,m,rfl,_⟩
  ·exact h2
  ·simp
 have HRM:=hid (O9 xs a _ c w hl hx hL);have hrl:=I6 xs hL xs.length (Aj _);rw[KF] at hrl;have HMO:=hid (fun k=>Pr xs k);have HL:=hid hl;have HR:=hid hR;clear hl hR hL;generalize hM:Fc xs=M at*;have hMM:=hid hM;clear hM;go_enter Tryz.func248,Tryz.ntmps248;go_wp2_with fail;refine HRM.out.mono ?_;rintro r w1 ⟨rfl,hb1⟩;have HN:=hid (Jc w1 M zD);go_wp2_with fail;refine HN.out.mono ?_;rintro r w2 ⟨rfl,hp2,hb2⟩;have hs1:=hb1.size;have hs2:=hb2.size;have HP2:=hid hp2;have hbw2:=Ag hb2 hb1;clear hp2;generalize hg:w1.heap.size=g at*;go_wp2_with fail;go_loopw [12] (fun i wr=>∃k:Nat,k≤xs.length∧i=.int .i64 k∧Hid (∃ap cp,Cl wr g g M (Cy (xs.take k)) ap cp)∧Below g w2 wr) (fun i _=>xs.length-(intOf i).toNat)
 case atStart=>exact ⟨0,Ao _,rfl,hid ⟨_,_,by simpa [Cy] using HP2.out⟩,Below.refl _ _⟩
 case round=>
  obtain⟨k,hk,rfl,hpen,hb⟩:=hrel;obtain⟨ap,cp,hP⟩:=hpen.out;have hbw:Below w.heap.size w wr:=⟨hb.os.trans hbw2.os,hb.tape.trans hbw2.tape,hb.output.trans hbw2.output,by have:=hb.size;omega,fun q hq=>(hb.block q zD).trans (hbw2.block q hq)⟩;have hgl:=hP.blk.lt;rcases Bm k xs.length with hlt | hge
  ·obtain⟨b,o,hA,hbb,a2,c2,x0,x1,x2,_,_,xl⟩:=M5 HL.out hlt
   subst hA;have X0:=(hbw.cell (p:=⟨b,o+k*3,none⟩) hbb).trans x0;have X1:=(hbw.cell (p:=⟨b,o+k*3+1,none⟩) hbb).trans x1;have X2:=(hbw.cell (p:=⟨b,o+k*3+2,none⟩) hbb).trans x2;have hst:=IZ xs k hlt;have hfit:(Cy (xs.take k)).length+(Iz xs[k]).length≤M:=by
    have h1:=Hg (xs.take (k+1));rw[hst,Au] at h1;have h2:=HMO.out (k+1);omega
   have hr:=HR.out _ (Da hlt);have HST:=hid hst;have HXL:=hid xl;have HFIT:=hid hfit;clear x0 x1 x2 xl hst hfit;generalize xs[k]=y at*;generalize Cy (xs.take k)=J at*;have hbs:=hb.size;have i1:(k:Int)<(xs.length:Int):=zD;have HP:=hid hP;clear hP hpen;rcases Fe hr with ⟨D,rfl,k1,k2⟩ | ⟨yo,ym,rfl,k1,k2,k3,k4⟩
   ·dsimp only at X0 X1 X2 HXL
    clear hr;go_wp2_with fail;have hbW:Below wr.heap.size wr (wr.alloc (.cells #[.slice a2 D.length c2,.int .i64 0,.int .i64 0] 225)):=zC;generalize wr.alloc (.cells #[.slice a2 D.length c2,.int .i64 0,.int .i64 0] 225)=W at*;have hzW:=hbW.size;have hPW:=HP.out.later hbW;have HQ:=hid (LR W hPW D k1 k2 a2 c2 (Ah.mono (Ah.keep HXL.out fun q hq=>(Ag hbW hbw).block q hq) fun q hq=>⟨Am hq (by have:=hbw.size;omega),fun hf=>by have:=(hPW.Dm hf).1;have hq':q<w.heap.size:=hq;omega⟩) HFIT.out (by have:=HFIT.out;omega));have HPW:=hid hPW;clear X0 X1 X2 hPW;refine HQ.out.mono ?_;rintro r w5 ⟨rfl,hps⟩;have hb5:Below g w2 w5:=by
     have e1:Below g W w5:=HPW.out.below (Aj _) zD hps;exact (hb.trans (hbW.mono zD)).trans e1
    obtain⟨a5,c5,hP5,_,_⟩:=hps;have HP5:=hid (⟨a5,c5,by rw[HST.out];exact hP5⟩:∃ap cp,Cl w5 g g M (Cy (xs.take (k+1))) ap cp);clear hP5;go_wp2;go_roundw
    case rel=>exact ⟨k+1,zD,zZ,HP5,hb5⟩
    case measure=>simp [intOf];omega
   ·dsimp only[Bz] at X0 X1 X2 HXL
    clear hr;go_wp2_with fail;have hbW:Below wr.heap.size wr (wr.alloc (.cells #[.slice a2 0 c2,.int .i64 yo,.int .i64 ym] 225)):=zC;generalize wr.alloc (.cells #[.slice a2 0 c2,.int .i64 yo,.int .i64 ym] 225)=W at*;have hzW:=hbW.size;have hPW:=HP.out.later hbW;have HQ:=hid (KY W hPW yo ym k1 k2 k3 k4 a2 c2 HFIT.out (by have:=HFIT.out;omega));have HPW:=hid hPW;clear X0 X1 X2 hPW;refine HQ.out.mono ?_;rintro r w5 ⟨rfl,hps⟩;have hb5:Below g w2 w5:=by
     have e1:Below g W w5:=HPW.out.below (Aj _) zD hps;exact (hb.trans (hbW.mono zD)).trans e1
    obtain⟨a5,c5,hP5,_,_⟩:=hps;have HP5:=hid (⟨a5,c5,by rw[HST.out];exact hP5⟩:∃ap cp,Cl w5 g g M (Cy (xs.take (k+1))) ap cp);clear hP5;go_wp2;go_roundw
    case rel=>exact ⟨k+1,zD,zZ,HP5,hb5⟩
    case measure=>simp [intOf];omega
  ·obtain rfl:k=xs.length:=by omega
   rw[KF] at hP;have HB:=hid (Ih wr hP);clear hP hpen;go_wp2_with fail;refine HB.out.mono ?_;rintro r w5 ⟨v,rfl,hv,hb5⟩;have hbe:=Ag hb5 hbw;have HV:=hid (Ah.mono (S':=fun q=>w.heap.size≤q∧q<w5.heap.size) hv fun q hq=>⟨by have:=hq.1;have:=hbw.size;omega,hq.2⟩);clear hv;go_wp2;go_ret2
   exact⟨_,rfl,HV.out,hbe⟩
theorem CQ(J D:List UInt8):byteCells J++byteCells D=byteCells (J++D):=zBe
theorem Ob(xs:List Tok)(a:Option Addr)(n c:Nat)(w:World)(hl:Kj.r (·<w.heap.size) w [.slice a n c] xs)(hx:xs.length≤10000000)(hR:∀t∈xs,Ct t=true):
  Calls Tryz.prog 225 #[.slice a n c] w fun r w'=>∃v,r=.returned v∧Ah.r (fun q=>w.heap.size≤q∧q<w'.heap.size) w' [v] (Cy xs)∧Below w.heap.size w w':=by
 obtain⟨rfl,hm,_,_⟩:=AU hl;obtain⟨i0,hi,hz0,hz1,hz2⟩:=Bc Ey;have hL:∀t∈xs,t.lit.length≤1048576:=fun t ht=>by
  rcases Fe (hR t ht) with ⟨D,rfl,h1,h2⟩ | ⟨o,m,rfl,_⟩
  ·exact h2
  ·simp
 have HRL:=hid (fun k (hk:k≤xs.length)=>A4 (Hg (xs.take k)) (I6 xs hL k hk));have HL:=hid hl;have HR:=hid hR;clear hl hR hL;go_enter Tryz.func225,Tryz.ntmps225;go_wp2_with fail;go_loopw [3,4] (fun v i wr=>∃k:Nat,k≤xs.length∧i=.int .i64 k∧wr.ownsRow w.heap.size 5 1 v (Cy (xs.take k)).length (byteCells (Cy (xs.take k)))∧Below w.heap.size w wr) (fun _ i _=>xs.length-(intOf i).toNat)
 case atStart=>exact ⟨0,Ao _,rfl,⟨rfl,.inl ⟨rfl,rfl⟩⟩,Below.refl _ _⟩
 case round=>
  obtain⟨k,hk,rfl,hown,hb⟩:=hrel;have hbs:=hb.size;rcases Bm k xs.length with hlt | hge
  ·obtain⟨b,o,hA,hbb,a2,c2,x0,x1,x2,_,_,xl⟩:=M5 HL.out hlt
   subst hA;have X0:=(hb.cell (p:=⟨b,o+k*3,none⟩) hbb).trans x0;have X1:=(hb.cell (p:=⟨b,o+k*3+1,none⟩) hbb).trans x1;have X2:=(hb.cell (p:=⟨b,o+k*3+2,none⟩) hbb).trans x2;have hst:=hid (IZ xs k hlt);have hle:=HRL.out (k+1) hlt;rw[hst.out,Au] at hle;have hr:=HR.out _ (Da hlt);have HXL:=hid xl;have HX:=hid (And.intro x0 (And.intro x1 x2));clear x0 x1 x2 xl;obtain⟨aJ,cJ,rfl⟩:=AX hown;generalize xs[k]=y at*;generalize Cy (xs.take k)=J at*;have i1:(k:Int)<(xs.length:Int):=zD;have HO:=hid hown;clear hown;rcases Fe hr with ⟨D,rfl,k1,k2⟩ | ⟨yo,ym,rfl,k1,k2,k3,k4⟩
   ·have hrun:EP ⟨D,0,0⟩=true:=by simp[EP];omega
    have HRUN:=hid (Mp ⟨D,0,0⟩ a2 c2 wr zH ⟨zP,zP⟩ ⟨zP,zP⟩);rw[hrun] at HRUN;have hT:=NM D k1 k2;rw[hT] at hle hst;rw[Au] at hle;have HV:=hid (fun (W:World)=>Hq (2*D.length-2) zD W);rw[show (((2*D.length-2:Nat)):Int)=2*(D.length:Int)-2 by omega] at HV;dsimp only at X0 X1 X2 HXL HX;clear hr hrun hT;go_wp2_with fail;refine HRUN.out.mono ?_;rintro r w1 ⟨rfl,hb1⟩;have hbw1:=Ag hb1 hb;have Y0:=(hbw1.cell (p:=⟨b,o+k*3,none⟩) hbb).trans HX.out.1;have hs1:=hb1.size;clear X0 X1 X2;go_wp2_with fail;refine (HV.out _).mono ?_;rintro r w2 ⟨v2,rfl,hv2,hb2⟩;obtain⟨a3,c3,hv3,hr3,_⟩:=At hv2;simp only[Ai,As] at hv3;subst hv3;have hs2:=hb2.size;have hb12:=Ag hb2 hb1;have hbw2:=Ag hb2 hbw1;have HO2:=hid (AR (AR HO.out hb1) hb2);have HS:=hid (BZ (Ah.mono (S':=(·<w2.heap.size)) hr3 fun q hq=>hq.2));generalize A5 (2*D.length-2)=E at*;have HONE:=hid (Bd E);clear hv2 hr3 Y0;go_wp2_with (first
     | (at_builtin;go_loud (refine Ar rfl _ _ _ rfl w.heap.size 5 i0 (.int .u8 0) 1 1 AK hi hz0 hz1 hz2 rfl zS (.slice aJ J.length cJ) J.length (byteCells J) rfl HO2.out a3 E.length c3 (byteCells E) rfl HS.out HONE.out zR zD zD ?_;intro v' w3 hown3 hgrow3 hat3;obtain⟨a4,c4,rfl⟩:=AX hown3;have HG3:=hid hgrow3;have HO3:=hid hown3;have hbw3:Below w.heap.size w w3:=(Below.grown hbw2 hgrow3 zD (fun g e=>(HO.out.lt g e).1));have Z0:=(hbw3.cell (p:=⟨b,o+k*3,none⟩) hbb).trans HX.out.1;have hs3:=hgrow3.size;have HS3:=hid (BZ (lift HXL.out hbw3));have HONE3:=hid (Bd D);clear hgrow3 hown3 hat3))
     | (at_builtin;go_loud (refine Ar rfl _ _ _ rfl w.heap.size 5 i0 (.int .u8 0) 1 1 AK hi hz0 hz1 hz2 rfl zS (.slice a4 (J.length+E.length) c4) (J.length+E.length) (byteCells J++byteCells E) rfl HO3.out a2 D.length c2 (byteCells D) rfl HS3.out HONE3.out zR zD zD ?_;intro v' w5 hown5 hgrow5 hat5;have HG5:=hid hgrow5;have HO5:=hid hown5;clear hgrow5 hown5 hat5)))
    have ho:=HO5.out;rw[CQ,CQ,CF,←hst.out] at ho;have hln:J.length+E.length+D.length=(Cy (xs.take (k+1))).length:=zC2;rw[hln] at ho;have HOF:=hid ho;have hbF:Below w.heap.size w w5:=Below.grown hbw3 HG5.out zD (fun g e=>(HO3.out.lt g e).1);clear ho hln Z0;go_wp2;go_roundw
    case rel=>exact ⟨k+1,zD,zZ,HOF.out,hbF⟩
    case measure=>simp [intOf];omega
   ·have hrun:EP ⟨[],(yo:Int),(ym:Int)⟩=false:=by simp[EP]
    have HRUN:=hid (Mp ⟨[],(yo:Int),(ym:Int)⟩ a2 c2 wr zP zH zH);rw[hrun] at HRUN;have hT:=Md yo ym k1;rw[hT] at hle hst;rw[Au] at hle;have HV:=hid (fun (W:World)=>Hq (2*ym-7) zD W);have HV2:=hid (fun (W:World)=>Hq (yo-1) zD W);rw[show (((2*ym-7:Nat)):Int)=2*(ym:Int)-7 by omega] at HV;rw[show (((yo-1:Nat)):Int)=(yo:Int)-1 by omega] at HV2;dsimp only[Bz] at X0 X1 X2 HXL HX HRUN;clear hr hrun hT;go_wp2_with fail;refine HRUN.out.mono ?_;rintro r w1 ⟨rfl,hb1⟩;have hbw1:=Ag hb1 hb;have Y2:=(hbw1.cell (p:=⟨b,o+k*3+2,none⟩) hbb).trans HX.out.2.2;have hs1:=hb1.size;clear X0 X1 X2;go_wp2_with fail;refine (HV.out _).mono ?_;rintro r w2 ⟨v2,rfl,hv2,hb2⟩;obtain⟨a3,c3,hv3,hr3,_⟩:=At hv2;simp only[Ai,As] at hv3;subst hv3;have hs2:=hb2.size;have hb12:=Ag hb2 hb1;have hbw2:=Ag hb2 hbw1;have HO2:=hid (AR (AR HO.out hb1) hb2);have HS:=hid (BZ (Ah.mono (S':=(·<w2.heap.size)) hr3 fun q hq=>hq.2));generalize A5 (2*ym-7)=E at*;have HONE:=hid (Bd E);clear hv2 hr3 Y2;go_wp2_with (at_builtin;go_loud (refine Ar rfl _ _ _ rfl w.heap.size 5 i0 (.int .u8 0) 1 1 AK hi hz0 hz1 hz2 rfl zS (.slice aJ J.length cJ) J.length (byteCells J) rfl HO2.out a3 E.length c3 (byteCells E) rfl HS.out HONE.out zR zD zD ?_;intro v' w3 hown3 hgrow3 hat3;obtain⟨a4,c4,rfl⟩:=AX hown3;have HG3:=hid hgrow3;have HO3:=hid hown3;have hbw3:Below w.heap.size w w3:=(Below.grown hbw2 hgrow3 zD (fun g e=>(HO.out.lt g e).1));have Z1:=(hbw3.cell (p:=⟨b,o+k*3+1,none⟩) hbb).trans HX.out.2.1;have hs3:=hgrow3.size;clear hgrow3 hown3 hat3))
    refine (HV2.out _).mono ?_;rintro r w4 ⟨v4,rfl,hv4,hb4⟩;obtain⟨a5,c5,hv5,hr5,_⟩:=At hv4;simp only[Ai,As] at hv5;subst hv5;have hs4:=hb4.size;have hbw4:=Ag hb4 hbw3;have HO4:=hid (AR HO3.out hb4);have HS4:=hid (BZ (Ah.mono (S':=(·<w4.heap.size)) hr5 fun q hq=>hq.2));generalize A5 (yo-1)=E2 at*;have HONE4:=hid (Bd E2);clear hv4 hr5;go_wp2_with (at_builtin;go_loud (refine Ar rfl _ _ _ rfl w.heap.size 5 i0 (.int .u8 0) 1 1 AK hi hz0 hz1 hz2 rfl zS (.slice a4 (J.length+E.length) c4) (J.length+E.length) (byteCells J++byteCells E) rfl HO4.out a5 E2.length c5 (byteCells E2) rfl HS4.out HONE4.out zR zD zD ?_;intro v' w5 hown5 hgrow5 hat5;have HG5:=hid hgrow5;have HO5:=hid hown5;clear hgrow5 hown5 hat5))
    have ho:=HO5.out;rw[CQ,CQ,CF,←hst.out] at ho;have hln:J.length+E.length+E2.length=(Cy (xs.take (k+1))).length:=zC2;rw[hln] at ho;have HOF:=hid ho;have hbF:Below w.heap.size w w5:=Below.grown hbw4 HG5.out zD (fun g e=>(HO4.out.lt g e).1);clear ho hln Z1;go_wp2;go_roundw
    case rel=>exact ⟨k+1,zD,zZ,HOF.out,hbF⟩
    case measure=>simp [intOf];omega
  ·obtain rfl:k=xs.length:=by omega
   rw[KF] at hown;have hV:=B9 rfl hown;have HV:=hid hV;clear hV hown;go_wp2;go_ret;exact⟨_,rfl,HV.out,hb⟩
end Go.Proofs.YtlbffbkbkajciaaGreat
namespace Go.Bs
open Go.RowKit
variable{base g n:Nat}{e:TypeId}{v:Value}{w:World}
theorem PY{w:World}{v:Value}{l:List UInt8}(hn:n=l.length)(h:w.ownsRow base e 1 v n (byteCells l)):Ah.r (fun b=>v.ownBlock=some b) w [v] l:=by
 subst hn;rcases h.2 with ⟨rfl,h0⟩ | ⟨g,cap,cur,rfl,hbg,hg,hn,hc,hcur,hx⟩
 ·have:l=[]:=AP h0
  subst this;exact AZ rfl (Aj _) (Ao _) (.inl rfl)
 ·refine AZ rfl hn hc (.inr ⟨g,0,rfl,rfl,fun i x hi=>⟨[.int .u8 (x.toNat:Int)],rfl,fun j v hj=> ?_,rfl⟩⟩)
  have hj0:j=0:=by
   rcases j with _ | j
   ·rfl
   ·simp at hj
  subst hj0;simp at hj;subst hj;have hi':i<l.length:=(List.getElem?_eq_some_iff.1 hi).1;rw[Cb,Ef,CE,Blk.cell hg i];have e1:cur[i]? =(cur.toList.take (l.length*1))[i]? :=by
   rw[CK,An zD];simp
  rw[e1,hx];simp[byteCells,hi]
end Go.Bs
namespace Go.Proofs.YtlbffbkbkajciaaGreat
open Go.RowKit Go.Bs Go.Maps
variable{cells:List (List Value)}{D J J' b l:List UInt8}{cs:List Value}{base c cb cp g gs i lo mb most n p sc sz:Nat}{F S:Nat → Prop}{a a1 ab ap sa:Option Addr}{e t:TypeId}{v vl:Value}{w w' w1:World}
def rTV:Rp (Tok ⊕ Value):=
  ⟨fun S w cs x=>match x with | .inl t=>Gw.r S w cs t | .inr v=>cs=[v,.int .i64 0,.int .i64 0],
   fun {S w w' cs x} h hk=>by cases x with | inl b=>exact Gw.keep h hk | inr y=>exact h,
   fun {S S' w cs x} h hk=>by cases x with | inl b=>exact Gw.mono h hk | inr y=>exact h⟩
structure Hc(lo:Nat)(w:World)(g c:Nat)(cells:List (List Value))(ts:List Tok)(D:List UInt8)(vl:Value):Prop where
 own:Bg (fun x=>lo≤x∧x<w.heap.size∧vl.ownBlock≠some x) rTV lo 225 3 w (.slice (some ⟨g,0,none⟩) (ts.length+1) c) (ts.map .inl++[.inr vl]) (cells++[[vl,.int .i64 0,.int .i64 0]])
 len:cells.length=ts.length
 last:w.ownsRow lo 5 1 vl D.length (byteCells D)
 ne:vl.ownBlock≠some g
theorem Ud{xs:List Tok}(h:Bg F Gw base e sz w v xs cells):Bg F rTV base e sz w v (xs.map .inl) cells:=by
 obtain⟨ho,hlen,hsz,hA⟩:=h;refine⟨by simpa using ho,zC6,hsz,fun i cs x hi hx=> ?_⟩;rw[JA] at hx;cases hxi:xs[i]? with
 | none=>rw [hxi] at hx;cases hx
 | some y=>rw [hxi] at hx;cases hx;exact hA i cs y hi hxi
theorem Hc.U5{ts:List Tok}(h:Hc lo w g c cells ts D vl):lo≤g∧g<w.heap.size:=h.own.1.lt g rfl
theorem Hc.close{ts:List Tok}(h:Hc lo w g c cells ts D vl):
  CJ lo Gw lo 225 3 w (.slice (some ⟨g,0,none⟩) (ts.length+1) c) (ts++[⟨D,0,0⟩]) (cells++[[vl,.int .i64 0,.int .i64 0]]):=by
 obtain⟨⟨ho,hlen,hsz,hA⟩,h1,h4,h5⟩:=h;refine⟨by simpa using ho,zC6,hsz,fun i cs x hi hx=> ?_⟩;by_cases hlt:i<ts.length
 ·rw[Bi hlt] at hx
  have:=hA i cs (.inl x) hi zBy;exact Gw.mono this fun b hb=>⟨hb.1.1,hb.1.2.1,hb.2⟩
 ·have hii:i=ts.length:=by
   have:=(List.getElem?_eq_some_iff.1 hx).1;simp at this;omega
  subst hii;rw[Bn zD] at hi;rw[Bn (Aj _)] at hx;simp[h1] at hi;simp at hx;subst hi hx;exact M4 (x:=⟨D,0,0⟩) (Ah.mono (PY rfl h4) fun b hb=>⟨(h4.lt b hb).1,(h4.lt b hb).2,fun e=>h5 (by rw[hb];exact e.symm)⟩) zP zP
theorem Hc.start{ts:List Tok}{y:UInt8}(hlo:lo≤w.heap.size)(h:CJ lo Gw lo 225 3 w v ts cells)
 (hown:w'.ownsRow lo 225 3 (.slice (some ⟨g,0,none⟩) (ts.length+1) c) (ts.length+1) (cells.flatten++[.slice (some ⟨w.heap.size,0,none⟩) 1 1,.int .i64 0,.int .i64 0]))
 (hg:((w.alloc (.cells #[.int .u8 (y.toNat:Int)] 5)).alloc (.cells #[.slice (some ⟨w.heap.size,0,none⟩) 1 1,.int .i64 0,.int .i64 0] 225)).grownBy w' v.ownBlock)
 (hat:(Value.slice (some ⟨g,0,none⟩) (ts.length+1) c).ownBlock=v.ownBlock∨(Value.slice (some ⟨g,0,none⟩) (ts.length+1) c).ownBlock=some ((w.alloc (.cells #[.int .u8 (y.toNat:Int)] 5)).alloc (.cells #[.slice (some ⟨w.heap.size,0,none⟩) 1 1,.int .i64 0,.int .i64 0] 225)).heap.size):
  Hc lo w' g c cells ts [y] (.slice (some ⟨w.heap.size,0,none⟩) 1 1):=by
 have hv:=fun q (hq:v.ownBlock=some q)=>(h.1.lt q hq).2;generalize hW:(w.alloc (.cells #[.int .u8 (y.toNat:Int)] 5)).alloc (.cells #[.slice (some ⟨w.heap.size,0,none⟩) 1 1,.int .i64 0,.int .i64 0] 225)=W at*;have keep:∀b,b<w.heap.size→W.heap[b]? =w.heap[b]? :=fun b hb=>by
  rw[←hW,A2 _ _ _ zM,A2 _ _ _ hb]
 have hs:W.heap.size=w.heap.size+2:=by rw[←hW];simp
 have hnew:W.heap[w.heap.size]? =some (.cells #[.int .u8 (y.toNat:Int)] 5 (0,0)):=by
  rw[←hW,A2 _ _ _ zP];exact EM w _
 have hgw:g≠w.heap.size:=fun e=>by
  rcases hat with h1 | h1
  ·have:=hv g (by rw[←h1];rfl);omega
  ·have:=By h1;simp at this;omega
 have hs':=hg.size;have h1:=Ud (((Bg.of h).keep (w':=W) (fun b hb=>keep b hb.2) (fun q hq=>keep q (hv q hq))).mono (F':=fun x=>lo≤x∧x<W.heap.size∧x≠w.heap.size) fun b hb=>⟨hb.1,zD,zD⟩);have h2:=Bg.push (v':=.slice (some ⟨g,0,none⟩) (ts.length+1) c) (x:=(.inr (.slice (some ⟨w.heap.size,0,none⟩) 1 1):Tok ⊕ Value)) h1 (fun b hb=>hb.2.1) (news:=[.slice (some ⟨w.heap.size,0,none⟩) 1 1,.int .i64 0,.int .i64 0]) rfl rfl (by simpa using hown) hg hat;refine⟨h2.mono fun b hb=>⟨hb.1,zD,fun e=>hb.2.2 (By e).symm⟩,h.2.1,?_,fun e=>hgw (By e).symm⟩;refine Gz hlo ((hg.block w.heap.size zD (fun e=> ?_)).trans hnew);have:=hv w.heap.size e.symm;omega
theorem Hc.grow{ts:List Tok}{D':List UInt8}{vl':Value}(h:Hc lo w g c cells ts D vl)
 (hk:∀b,b<w.heap.size→vl.ownBlock≠some b→w'.heap[b]? =w.heap[b]?) (hs:w.heap.size≤w'.heap.size) (hl:w'.ownsRow lo 5 1 vl' D'.length (byteCells D'))
 (hat:vl'.ownBlock=vl.ownBlock∨∃q,vl'.ownBlock=some q∧w.heap.size≤q):
  Hc lo (w'.setCell ⟨g,ts.length*3,none⟩ vl') g c cells ts D' vl':=by
 have hgl:=h.U5;obtain⟨ho,h1,h4,h5⟩:=h;have hsame:(w'.setCell ⟨g,ts.length*3,none⟩ vl').heap.size=w'.heap.size:=ZQ;have hne':vl'.ownBlock≠some g:=fun e=>by
  rcases hat with h | ⟨q,h,hq⟩
  ·exact h5 (h ▸ e)
  ·rw[h] at e;have:=By e;omega
 have ho':=ho.keep (w':=w') (fun b hb=>hk b hb.2.1 hb.2.2) (fun g' hg'=>by
  have e:g=g':=by simpa [Value.ownBlock] using hg'
  subst e;exact hk g hgl.2 h5)
 have h7:=Bg.Q5 (x':=(.inr vl':Tok ⊕ Value)) (j:=0) (u:=vl') ho' zAw zD (show _=_ from rfl);rw[CE,List.length_map] at h7;have h8:Bg (fun x=>lo≤x∧x<w.heap.size∧vl.ownBlock≠some x) rTV lo 225 3 (w'.setCell ⟨g,ts.length*3,none⟩ vl') (.slice (some ⟨g,0,none⟩) (ts.length+1) c) (ts.map .inl++[.inr vl']) (cells++[[vl',.int .i64 0,.int .i64 0]]):=h7;refine⟨Bg.mono h8 fun b hb=>⟨hb.1,by rw[hsame];omega,fun e=> ?_⟩,h1,FR hl fun q hq=>Ap _ _ _ _ (fun e=>hne' (by rw[hq];exact Cs some e)),hne'⟩;rcases hat with h | ⟨q,h,hq⟩
 ·exact hb.2.2 (h ▸ e)
 ·rw[h] at e;have:=By e;omega
theorem Hc.later{ts:List Tok}(h:Hc lo w g c cells ts D vl)(hb:Below w.heap.size w w'):Hc lo w' g c cells ts D vl:=by
 have hgl:=h.U5;obtain⟨ho,h1,h4,h5⟩:=h;refine⟨(ho.keep (w':=w') (fun b h=>hb.block b h.2.1) (fun g' hg'=>hb.block g' (ho.1.lt g' hg').2)).mono fun b hb'=>⟨hb'.1,by have:=hb.size;omega,hb'.2.2⟩,h1,AR h4 hb,h5⟩
theorem Hc.place{ts:List Tok}(h:Hc lo w g c cells ts D vl):
  w.cell? ⟨g,ts.length*3,none⟩=some vl∧w.cell? ⟨g,ts.length*3+1,none⟩=some (.int .i64 0)∧w.frozen? ⟨g,ts.length*3,none⟩=false:=by
 obtain⟨⟨ho,hlen,hsz,hA⟩,h1,_⟩:=h;rcases ho.2 with ⟨h0,_⟩ | ⟨g',cap,cur,hv,hbg,hg,hn,hc,hcur,hx⟩
 ·cases h0
 ·simp at hv
  obtain⟨rfl,rfl⟩:=hv;have hf:∀j u,[vl,Value.int .i64 0,.int .i64 0][j]? =some u→cur[ts.length*3+j]? =some u:=fun j u hu=>by
   have hf:=EX 3 (cells++[[vl,.int .i64 0,.int .i64 0]]) hsz ts.length j [vl,.int .i64 0,.int .i64 0] u zCx hu;rw[←hx,CK] at hf;split at hf
   ·simpa using hf
   ·cases hf
  refine⟨?_,?_,Blk.free hg _⟩
  ·rw[Blk.cell hg];exact hf 0 vl rfl
  ·rw[Blk.cell hg];exact hf 1 _ rfl
end Go.Proofs.YtlbffbkbkajciaaGreat
