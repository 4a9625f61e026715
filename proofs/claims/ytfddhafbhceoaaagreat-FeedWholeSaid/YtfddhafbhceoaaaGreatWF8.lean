/- Mini: Needed by feedNone_walk, part 8: texts put together by shake.py; no condition. -/
import Derived.Test.YtfddhafbhceoaaaGreatWF7
import Derived.Test.YtfddhafbhceoaaaGreatWF5
import Derived.Test.YtfddhafbhceoaaaGreatWF2
import Derived.Laws.Bits64
import Derived.Test.YtfddhafbhceoaaaGreatWF3
import Derived.Test.YtfddhafbhceoaaaGreatWF1
import Derived.Test.YtfddhafbhceoaaaGreatWF6
import Derived.Deep.RegionHeld3
import Derived.Test.YtfddhafbhceoaaaGreatWF4
import Derived.Deep.Cut
import Derived.Deep.CutRange
import Derived.BigRegion
import Derived.Scope
import Derived.Test.YtfddhafbhceoaaaGreatProg
import Derived.WalkKit
import Derived.Deep.WholeRow
import Derived.BigQuiet
set_option linter.unusedVariables false
set_option linter.unusedSimpArgs false
set_option maxRecDepth 100000
set_option maxHeartbeats 6400000
namespace Go.Bs
theorem zAn{p:Prop}(h:p:=by simp [results, Tryz.results206, go_sem]):p:=h
theorem zAe{p:Prop}(h:p:=by rw [hf.out, hst.out]; simp [h3]):p:=h
theorem ZI{p:Prop}(h:p:=by rw [hf.out, YU _ _ l k (.inl (by omega))]; simp only [decide_eq_decide]; omega):p:=h
theorem ZH{p:Prop}(h:p:=by rw [hf.out, YU _ _ l k (.inr (by omega))]; simp only [decide_eq_decide]; omega):p:=h
theorem CA:type_of% @List.length_drop:=@List.length_drop
end Go.Bs
namespace Go.Proofs.YtfddhafbhceoaaaGreat
open Go.RowKit Go.Bs Go.Maps
variable{pos:Int}{B J J' rest:List UInt8}{xs:List Value}{base c c1 c2 c3 c4 g i k n p sz:Nat}{S:Nat → Prop}{a a1 a2 a3 a4:Option Addr}{s:Rs}{e:TypeId}{u v:Value}{W W' w w':World}
def Ji(h:List Be × Nat):Entry:=⟨h.1,[]⟩
def Fw(l:List (List Be × Nat)):List Value:=l.map fun h=> .int .i64 (h.2:Int)
theorem Rs.Xt{most:Int}:(s.Cq B pos most).2.2≤most.toNat:=by
 unfold Rs.Cq
 split
 ·exact Rs.E6
 ·exact Ar _
structure CM(lo:Nat)(W:World)(v u:Value)(J:List (List Be × Nat)):Prop where
 els:∃cells,AY (fun b=>lo≤b∧b<W.heap.size∧u.ownBlock≠some b) FD lo 180 2 W v (J.map Ji) cells
 szs:W.ownsRow lo 3 1 u J.length (Fw J)
theorem Ls{lo lo':Nat}{e':TypeId}{sz' m:Nat}{ys:List Value}(h:W.ownsRow lo e sz v n xs)(h':W.ownsRow lo' e' sz' u m ys)(hne:e≠e'):∀b,v.ownBlock=some b→u.ownBlock≠some b:=by
 intro b hv hu
 rcases h.2 with ⟨rfl,_⟩ | ⟨g,cap,cur,rfl,_,hg,_⟩
 ·cases hv
 ·rcases h'.2 with ⟨rfl,_⟩ | ⟨g',cap',cur',rfl,_,hg',_⟩
  ·cases hu
  ·have e1:g=b:=by simpa [Value.ownBlock] using hv
   have e2:g'=b:=by simpa [Value.ownBlock] using hu
   subst e1 e2
   rw[hg] at hg'
   simp at hg'
   exact hne hg'.2
theorem CQ{lo:Nat}(h:W.ownsRow lo e sz v n xs)(hk:∀b,v.ownBlock=some b→b<W.heap.size→W'.heap[b]? =W.heap[b]?):W'.ownsRow lo e sz v n xs:=by
 refine⟨h.1,?_⟩
 rcases h.2 with h0 | ⟨g',cap,cur,h1,h2,h3,h4⟩
 ·exact .inl h0
 ·exact .inr ⟨g',cap,cur,h1,h2,(hk g' (by rw[h1];rfl) (Blk.lt h3)).trans h3,h4⟩
theorem BH{lo:Nat}(h:W.ownsRow lo e sz v n xs):∀b,v.ownBlock=some b→lo≤b∧b<W.heap.size:=by
 intro b hv
 rcases h.2 with ⟨rfl,_⟩ | ⟨g,cap,cur,rfl,hb,hg,_⟩
 ·cases hv
 ·have e1:g=b:=by simpa [Value.ownBlock] using hv
  subst e1
  exact⟨hb,Blk.lt hg⟩
theorem CM.nil{lo:Nat}:CM lo W (.slice none 0 0) (.slice none 0 0) []:=⟨⟨[],AY.nil⟩,⟨rfl,.inl ⟨rfl,rfl⟩⟩⟩
theorem CM.Us{lo:Nat}{J:List (List Be × Nat)}(h:CM lo W v u J):∃a c,v=.slice a J.length c:=by
 obtain⟨⟨cells,OA⟩,hu⟩:=h
 have:=AV OA.1
 rwa [FA] at this
theorem CM.tch{lo g:Nat}{W W':World}{v u:Value}{J:List (List Be × Nat)}(h:CM lo W v u J)(hb:Tch (fun b=>b=g∨W.heap.size≤b) W W')(hg:g<lo):CM lo W' v u J:=by
 obtain⟨⟨cells,OA⟩,hu⟩:=h
 have hk:∀b,lo≤b→b<W.heap.size→W'.heap[b]? =W.heap[b]? :=fun b h1 h2=>hb.block b h2 zC
 refine⟨⟨cells,?_⟩,CQ hu fun b hv hl=>hk b (BH hu b hv).1 hl⟩
 refine AY.mono (AY.keep OA (fun b h=>hk b h.1 h.2.1) fun b hv=>hk b (BH OA.1 b hv).1 (BH OA.1 b hv).2) fun b h=>⟨h.1,An h.2.1 hb.size,h.2.2⟩
structure Fk(lo:Nat)(B:Nat)(W:World)(v u:Value)(J J':List (List Be × Nat)):Prop where
 els:∃cells,AY (fun b=>lo≤b∧b<B∧u.ownBlock≠some b) FD lo 180 2 W v (J'.map Ji) cells
 szs:W.ownsRow lo 3 1 u J.length (Fw J)
 le:B≤W.heap.size
theorem Fk.of{lo:Nat}{W W':World}{v v' u:Value}{J:List (List Be × Nat)}{x:List Be × Nat}{cells:List (List Value)}{news:List Value}
 (OA:AY (fun b=>lo≤b∧b<W.heap.size∧u.ownBlock≠some b) FD lo 180 2 W v (J.map Ji) cells) (hu:W.ownsRow lo 3 1 u J.length (Fw J))
 (hn:news.length=2) (hx:FD.r (fun b=>(lo≤b∧b<W.heap.size∧u.ownBlock≠some b)∧v.ownBlock≠some b) W news (Ji x))
 (hown:W'.ownsRow lo 180 2 v' (J.length+1) (cells.flatten++news)) (hg:W.grownBy W' v.ownBlock) (hat:v'.ownBlock=v.ownBlock∨v'.ownBlock=some W.heap.size):Fk lo W.heap.size W' v' u J (J++[x]):=by
 refine⟨⟨cells++[news],?_⟩,CQ hu fun b hv hl=>hg.block b hl (fun e=>Ls OA.1 hu zL b e.symm hv),hg.size⟩
 rw[Cv,Ca,List.map_nil]
 exact AY.push OA (fun b hb=>hb.2.1) hn hx (by simpa using hown) hg hat
theorem Fk.below{lo B:Nat}{J J':List (List Be × Nat)}(h:Fk lo B W v u J J')(hb:Below W.heap.size W W'):Fk lo B W' v u J J':=by
 obtain⟨⟨cells,OA⟩,hu,hB⟩:=h
 exact⟨⟨cells,AY.keep OA (fun b h=>hb.block b (by have:=h.2.1;omega)) fun b hv=>hb.block b (BH OA.1 b hv).2⟩,CQ hu fun b hv hl=>hb.block b hl,Z3⟩
theorem Fk.to{lo B:Nat}{u':Value}{J:List (List Be × Nat)}{x:List Be × Nat}(h:Fk lo B W v u J (J++[x]))
 (hown:W'.ownsRow lo 3 1 u' (J.length+1) (Fw J++[.int .i64 (x.2:Int)])) (hg:W.grownBy W' u.ownBlock) (hat:u'.ownBlock=u.ownBlock∨u'.ownBlock=some W.heap.size):CM lo W' v u' (J++[x]):=by
 obtain⟨⟨cells,OA⟩,hu,hB⟩:=h
 refine⟨⟨cells,?_⟩,?_⟩
 ·refine AY.mono (AY.keep OA (fun b h=>hg.block b (by have:=h.2.1;omega) (fun e=>h.2.2 e.symm)) fun b hv=>hg.block b (BH OA.1 b hv).2 (fun e=>Ls OA.1 hu zL b hv e.symm)) fun b h=>⟨h.1,?_,fun e=> ?_⟩
  ·have:=h.2.1;have:=hg.size;omega
  ·rcases hat with h' | h'
   ·exact h.2.2 (h' ▸ e)
   ·rw[h'] at e;have:=AR e;have:=h.2.1;omega
 ·have e:Fw (J++[x])=Fw J++[.int .i64 (x.2:Int)]:=by simp[Fw]
  rw[e,Al]
  exact hown
theorem CM.out{lo:Nat}{W:World}{v:Value}{J:List (List Be × Nat)}(h:CM lo W v u J):CK.r (fun b=>lo≤b∧b<W.heap.size) W [v] (J.map Ji):=by
 obtain⟨⟨cells,OA⟩,hu⟩:=h
 exact A8.I4 (As _) ⟨cells,AY.to OA fun b h=>⟨h.1,h.2.1⟩⟩
theorem Sq(w:World)(h:AS w g B a s)(hB:B.length≤1000000000)(pos:Int)(N:Nat)(hN:N≤16)(hpos:0≤pos∧pos+N≤18446744073709551615):
  Calls Tryz.prog 205 #[.pointer (some ⟨g,0,none⟩),.int .u64 pos,.int .i64 N] w fun r w'=>∃v u,r=.returned (.tuple #[v,u])∧CM w.heap.size w' v u (Rs.Dt B N s pos 1048576 []).2∧AE w g B a (Rs.Dt B N s pos 1048576 []).1 w':=by
 obtain⟨i0,hi,hz0,hz1,hz2⟩:=A5 LA
 obtain⟨j0,hj,hy0,hy1,hy2⟩:=A5 Uo
 have hlt:=h.blk.lt
 have HIN:=hid (CS.refl h)
 clear h
 go_enter Tryz.func205,Tryz.ntmps205
 go_wp2
 go_loopw [8,9,10,15] (fun v u l i wr=>∃(k:Nat) (J:List (List Be × Nat)) (st:Rs) (left:Int),k≤N∧i=.int .i64 k∧l=.int .i64 left∧0≤left∧left≤1048576∧Hid (J.length=k)∧CM w.heap.size wr v u J∧Hid (CS w wr g B a st)∧Hid (Rs.Dt B N s pos 1048576 []=Rs.Dt B (N-k) st (pos+k) left J)) (fun _ _ _ i _=>N-(intOf i).toNat)
 case atStart=>exact ⟨0,[],s,1048576,Ar _,rfl,rfl,zC,zC,hid rfl,CM.nil,HIN,hid zM⟩
 case round=>
  obtain⟨k,J,st,left,hk,rfl,rfl,hl0,hl1,hJl,hown,hin,hsp⟩:=hrel
  obtain⟨av,cv,rfl⟩:=CM.Us hown
  obtain⟨au,cu,rfl⟩:=AV hown.szs
  rcases Bl k N with hlt2 | hge
  ·have HER:=hid (NO wr hin.out.rd hB (pos+k) zC left zC)
   have hle:=Rs.Xt (B:=B) (s:=st) (pos:=pos+k) (most:=left)
   have hstep:Rs.Dt B (N-k) st (pos+k) left J=(if (st.Cq B (pos+k) left).1.k=0 then Rs.Dt B (N-(k+1)) (st.Cq B (pos+k) left).1 (pos+k+1) (left-(st.Cq B (pos+k) left).2.2) (J++[(st.Cq B (pos+k) left).2]) else ((st.Cq B (pos+k) left).1,[])):=by
    rw[show N-k=(N-(k+1))+1 by omega];rfl
   have hsz0:=hin.out.tch.size
   have hJ16:J.length≤16:=zAh
   have i1:(k:Int)<(N:Int):=zC
   have d1:decide ((k:Int)<(N:Int))=true:=Ad i1
   have d1':decide (k<N)=true:=Ad hlt2
   have c1:0≤pos+(k:Int):=zC
   have c2:pos+(k:Int)≤18446744073709551615:=zC
   have HO:=hid hown
   generalize st.Cq B (pos+k) left=EH at*
   obtain⟨s2,l,n⟩:=EH
   dsimp only at*
   clear hown
   go_wp2_with fail
   refine HER.out.mono ?_
   rintro r w1 ⟨v1,rfl,hv1,hst1⟩
   obtain⟨a1,c1',hfv,_,_⟩:=AH (FJ hv1)
   simp only[Av,AI] at hfv
   subst hfv
   have HIN1:=hid (hin.out.step hst1)
   have HO1:=hid (CM.tch HO.out (hst1.2.mono fun b hb e=> .inl e) hlt)
   have hsz1:=HIN1.out.tch.size
   have HV1:=hid hv1
   clear hst1 hv1
   by_cases hk2:s2.k=0
   ·rw[Ag hk2] at hstep
    have HSP:=hid (hsp.out.trans hstep)
    have HG:=hid (fun (W:World) (hW:AS W g B a s2)=>(by have:=AK W hW;rw[Ad hk2] at this;exact this:Calls Tryz.prog 112 #[.pointer (some ⟨g,0,none⟩)] W fun r w'=>r=.returned (.bool true)∧Below W.heap.size W w'))
    have w1':0≤left-(n:Int):=zC
    have w2':left-(n:Int)≤1048576:=zC
    clear hsp hstep hk2
    go_wp2_with fail
    refine (HG.out _ (HIN1.out.row ((by (repeat (first | with_reducible exact Below.refl _ _ | with_reducible assumption | (with_reducible refine Aw ?_ _) | (with_reducible refine Below.setCell ?_ zE _) | (with_reducible refine Below.drew ?_) | (with_reducible refine below_drewN ?_ _) | (refine Aj zG ?_))):Below w1.heap.size w1 _).mono hsz1)).rd).mono ?_
    rintro r w3 ⟨rfl,hb3⟩
    have B3:Blk w3 w1.heap.size 180 #[.slice a1 l.length c1',.slice none 0 0]:=Blk.later zD hb3
    have hb13:Below w1.heap.size w1 w3:=(by (repeat (first | with_reducible exact Below.refl _ _ | with_reducible assumption | (with_reducible refine Aw ?_ _) | (with_reducible refine Below.setCell ?_ zE _) | (with_reducible refine Below.drew ?_) | (with_reducible refine below_drewN ?_ _) | (refine Aj zG ?_))):Below w1.heap.size w1 (w1.alloc (.cells #[.slice a1 l.length c1',.slice none 0 0] 180))).trans (hb3.mono zM)
    have HIN3:=hid (HIN1.out.row (hb13.mono hsz1))
    obtain⟨x0,x1,_,_,l3⟩:=Bd B3
    clear hb3
    have hb14:Below w1.heap.size w1 (w3.alloc (.cells #[.slice a1 l.length c1',.slice none 0 0] 180)):=hb13.alloc (by have:=hb13.size;omega) _
    have k4:Tch (fun b=>b=g∨w1.heap.size≤b) w1 (w3.alloc (.cells #[.slice a1 l.length c1',.slice none 0 0] 180)):=(Tch.Ef hb14).mono (fun b hb e=> .inr e)
    have hsz3:=HIN3.out.tch.size
    obtain⟨⟨cells,OA⟩,hu4⟩:=CM.tch HO1.out k4 hlt
    have hlu:∀b,(Value.slice au J.length cu).ownBlock=some b→b<wr.heap.size:=fun b e=>(BH HO.out.szs b e).2
    have hlv:∀b,(Value.slice av J.length cv).ownBlock=some b→b<wr.heap.size:=by
     obtain⟨⟨cells0,OA0⟩,_⟩:=HO.out
     exact fun b e=>(BH OA0.1 b (by simpa using e)).2
    have hx:FD.r (fun b=>(w.heap.size≤b∧b<(w3.alloc (.cells #[.slice a1 l.length c1',.slice none 0 0] 180)).heap.size∧(Value.slice au J.length cu).ownBlock≠some b)∧(Value.slice av J.length cv).ownBlock≠some b) (w3.alloc (.cells #[.slice a1 l.length c1',.slice none 0 0] 180)) [.slice a1 l.length c1',.slice none 0 0] (Ji (l,n)):=by
     have h4s:=hb14.size
     refine Ps (EM.mono (EM.keep HV1.out (w':=(w3.alloc (.cells #[.slice a1 l.length c1',.slice none 0 0] 180))) fun b hb=>hb14.block b hb.2) fun b hb=>⟨⟨?_,?_,fun e=> ?_⟩,fun e=> ?_⟩) (BR rfl rfl zC)
     ·have:=hb.1;omega
     ·have:=hb.2;omega
     ·have:=hlu b e;have:=hb.1;omega
     ·have:=hlv b e;have:=hb.1;omega
    have HX:=hid hx
    have HA:=hid OA
    have HU:=hid hu4
    have HS9:Hid (w.heap.size≤(w3.alloc (.cells #[.slice a1 l.length c1',.slice none 0 0] 180)).heap.size):=hid zI
    have HR4:=hid (HIN3.out.row (show Below w.heap.size w3 (w3.alloc (.cells #[.slice a1 l.length c1',.slice none 0 0] 180)) from (Below.refl _ _).alloc hsz3 _))
    have hJm:(J.map Ji).length=J.length:=zM
    have HOW:Hid ((w3.alloc (.cells #[.slice a1 l.length c1',.slice none 0 0] 180)).ownsRow w.heap.size 180 2 (.slice av J.length cv) J.length cells.flatten):=hid (by have:=OA.1;rwa [hJm] at this)
    clear hx OA hu4 hlu hlv k4 hb14 hJm HV1
    go_wp2_with (first | (at_builtin;go_loud (refine AB rfl _ _ _ rfl w.heap.size 180 i0 (.agg #[.slice none 0 0,.slice none 0 0]) 2 48 Tryz.underlying46 hi hz0 hz1 hz2 rfl zL (.slice av J.length cv) J.length _ rfl HOW.out (some ⟨w3.heap.size,0,none⟩) 1 1 [.slice a1 l.length c1',.slice none 0 0] rfl (BU w3 180 _ rfl rfl rfl) (by intro u hu;simp at hu;rcases hu with rfl | rfl<;>rfl) zO zC HS9.out ?_;intro v5 w5 hown5 hgrow5 hat5;obtain⟨a5,c5,rfl⟩:=AV hown5;have HM5:=hid (Fk.of (x:=(l,n)) HA.out HU.out rfl HX.out hown5 hgrow5 hat5);have HIN5:=hid (HR4.out.row (Below.grown (Below.refl _ _) hgrow5 HS9.out (fun g e=>(BH HOW.out g e).1)));have hsz5:=HIN5.out.tch.size;have HU6:=hid (Fk.below HM5.out (show Below w5.heap.size w5 (w5.alloc (.cells #[.int .i64 (n:Int)] 3)) from (Below.refl _ _).alloc (As _) _));have HIN6:=hid (HIN5.out.row (show Below w.heap.size w5 (w5.alloc (.cells #[.int .i64 (n:Int)] 3)) from (Below.refl _ _).alloc hsz5 _));have HS6:Hid (w.heap.size≤(w5.alloc (.cells #[.int .i64 (n:Int)] 3)).heap.size):=hid zI;clear hown5 hgrow5 hat5 hsz5)) | (at_builtin;go_loud (refine AB rfl _ _ _ rfl w.heap.size 3 j0 (.int .i64 0) 1 8 Tryz.underlying176 hj hy0 hy1 hy2 rfl zL (.slice au J.length cu) J.length _ rfl HU6.out.szs (some ⟨w5.heap.size,0,none⟩) 1 1 [.int .i64 (n:Int)] rfl (BU w5 3 _ rfl rfl rfl) zZ zO zC HS6.out ?_;intro v7 w7 hown7 hgrow7 hat7;obtain⟨a7,c7,rfl⟩:=AV hown7;have HO7:=hid (Fk.to HU6.out hown7 hgrow7 hat7);have HIN7:=hid (HIN6.out.row (Below.grown (Below.refl _ _) hgrow7 HS6.out (fun g e=>(BH HU6.out.szs g e).1)));clear hown7 hgrow7 hat7)))
    go_roundw
    case rel=>exact ⟨k+1,J++[(l,n)],s2,left-(n:Int),zC,zT,rfl,zC,zC,hid Z4,HO7.out,HIN7,hid (by rw[HSP.out];simp[Int.add_assoc])⟩
    case measure=>simp [intOf];omega
   ·rw[Ai hk2] at hstep
    have HSP:=hid (hsp.out.trans hstep)
    have HG:=hid (fun (W:World) (hW:AS W g B a s2)=>(by have:=AK W hW;rw[Ae hk2] at this;exact this:Calls Tryz.prog 112 #[.pointer (some ⟨g,0,none⟩)] W fun r w'=>r=.returned (.bool false)∧Below W.heap.size W w'))
    clear hsp hstep hk2
    go_wp2_with fail
    refine (HG.out _ (HIN1.out.row ((by (repeat (first | with_reducible exact Below.refl _ _ | with_reducible assumption | (with_reducible refine Aw ?_ _) | (with_reducible refine Below.setCell ?_ zE _) | (with_reducible refine Below.drew ?_) | (with_reducible refine below_drewN ?_ _) | (refine Aj zG ?_))):Below w1.heap.size w1 _).mono hsz1)).rd).mono ?_
    rintro r w3 ⟨rfl,hb3⟩
    have hb13:Below w1.heap.size w1 w3:=(by (repeat (first | with_reducible exact Below.refl _ _ | with_reducible assumption | (with_reducible refine Aw ?_ _) | (with_reducible refine Below.setCell ?_ zE _) | (with_reducible refine Below.drew ?_) | (with_reducible refine below_drewN ?_ _) | (refine Aj zG ?_))):Below w1.heap.size w1 (w1.alloc (.cells #[.slice a1 l.length c1',.slice none 0 0] 180))).trans (hb3.mono zM)
    have HE:=hid (HIN1.out.row (hb13.mono hsz1)).to
    clear hb3
    go_wp2
    rw[HSP.out]
    refine Ax (v:=.tuple #[.slice none 0 0,.slice none 0 0]) (by simp[results,Tryz.results205,go_sem]) rfl ⟨_,_,rfl,CM.nil,HE.out⟩
  ·obtain rfl:k=N:=by omega
   have hE:=hsp.out
   rw[Nat.sub_self] at hE
   have HSP:Hid (Rs.Dt B k s pos 1048576 []=(st,J)):=hid hE
   have HO:=hid hown
   have HE:=hid hin.out.to
   clear hE hown
   go_wp2
   rw[HSP.out]
   refine Ax (v:=.tuple #[.slice av J.length cv,.slice au J.length cu]) (by simp[results,Tryz.results205,go_sem]) rfl ⟨_,_,rfl,HO.out,HE.out⟩
theorem MM(n:Int):0≤IntKind.u64.wrap n∧IntKind.u64.wrap n≤18446744073709551615:=by
 rw[IntKind.wrap_u64];omega
end Go.Proofs.YtfddhafbhceoaaaGreat
namespace Go.Bs
open Go.RowKit
structure Aav where
 epoch:Int
 node:Int
 tail:Int
 deriving DecidableEq
structure Oe where
 lo:Int
 hi:Int
 sets:List (List Int)
 deriving DecidableEq
structure XN where
 epoch:Int
 stripes:List Oe
 deriving DecidableEq
structure Msg where
 kind:Int
 epoch:Int
 seq:Int
 pos:Int
 count:Int
 state:Int
 streams:List Int
 links:List Be
 data:List UInt8
 sea:Aav
 proj:XN
 deriving DecidableEq
def YS:Rp Aav:=rBy (fun s=>(s.epoch,s.node,s.tail)) (Dr (F6 .u64) (Dr (F6 .u64) (F6 .u64)))
def AaG:Rp (List (List Int)):=rSl 1 Cb
def Ui:Rp Oe:=rBy (fun s=>(s.lo,s.hi,s.sets)) (Dr (F6 .u64) (Dr (F6 .u64) AaG))
def Fc:Rp (List Oe):=rSl 3 Ui
def Wz:Rp XN:=rBy (fun p=>(p.epoch,p.stripes)) (Dr (F6 .u64) Fc)
def Y9:Rp Msg:=rBy (fun m=>(m.kind,m.epoch,m.seq,m.pos,m.count,m.state,m.streams,m.links,m.data,m.sea,m.proj))
 (Dr (F6 .i64) (Dr (F6 .u64) (Dr (F6 .u64) (Dr (F6 .u64) (Dr (F6 .i64) (Dr (F6 .i64) (Dr Cb (Dr Cx (Dr Am (Dr YS Wz))))))))))
def inU(x:Int):Prop:=0≤x∧x≤18446744073709551615
def inI(x:Int):Prop:=-9223372036854775808≤x∧x≤9223372036854775807
section
variable {S:Nat→Prop} {w:World} {cs:List Value}
theorem SO{x:Aav}(h:YS.r S w cs x):cs=[.int .u64 x.epoch,.int .u64 x.node,.int .u64 x.tail]∧inU x.epoch∧inU x.node∧inU x.tail:=by
 obtain⟨c1,c2,rfl,⟨rfl,h1⟩,c3,c4,rfl,⟨rfl,h2⟩,rfl,h3⟩:=h
 exact⟨rfl,FV h1,FV h2,FV h3⟩
theorem QZ{x:XN}(h:Wz.r S w cs x):∃a c,cs=[.int .u64 x.epoch,.slice a x.stripes.length c]∧inU x.epoch∧Fc.r S w [.slice a x.stripes.length c] x.stripes:=by
 obtain⟨c1,c2,rfl,⟨rfl,h1⟩,h3⟩:=h
 obtain⟨a,c,rfl,h4,_⟩:=AH h3
 exact⟨a,c,rfl,FV h1,h4⟩
def Nd(m:Msg)(a1:Option Addr)(c1:Nat)(a2:Option Addr)(c2:Nat)(a3:Option Addr)(c3:Nat)(a4:Option Addr)(c4:Nat):List Value:=
  [.int .i64 m.kind,.int .u64 m.epoch,.int .u64 m.seq,.int .u64 m.pos,.int .i64 m.count,.int .i64 m.state,.slice a1 m.streams.length c1,.slice a2 m.links.length c2,.slice a3 m.data.length c3,
   .int .u64 m.sea.epoch,.int .u64 m.sea.node,.int .u64 m.sea.tail,.int .u64 m.proj.epoch,.slice a4 m.proj.stripes.length c4]
structure FZ(S:Nat→Prop)(w:World)(m:Msg)(a1:Option Addr)(c1:Nat)(a2:Option Addr)(c2:Nat)(a3:Option Addr)(c3:Nat)(a4:Option Addr)(c4:Nat):Prop where
 kind:inI m.kind
 epoch:inU m.epoch
 seq:inU m.seq
 pos:inU m.pos
 count:inI m.count
 state:inI m.state
 sealE:inU m.sea.epoch
 sealN:inU m.sea.node
 sealT:inU m.sea.tail
 projE:inU m.proj.epoch
 streams:Cb.r S w [.slice a1 m.streams.length c1] m.streams
 links:Cx.r S w [.slice a2 m.links.length c2] m.links
 data:Am.r S w [.slice a3 m.data.length c3] m.data
 stripes:Fc.r S w [.slice a4 m.proj.stripes.length c4] m.proj.stripes
theorem U9{x:Msg}(h:Y9.r S w cs x):∃a1 c1 a2 c2 a3 c3 a4 c4,cs=Nd x a1 c1 a2 c2 a3 c3 a4 c4∧FZ S w x a1 c1 a2 c2 a3 c3 a4 c4:=by
 obtain⟨_,_,rfl,⟨rfl,h1⟩,_,_,rfl,⟨rfl,h2⟩,_,_,rfl,⟨rfl,h3⟩,_,_,rfl,⟨rfl,h4⟩,_,_,rfl,⟨rfl,h5⟩,_,_,rfl,⟨rfl,h6⟩,_,_,rfl,h7,_,_,rfl,h8,_,_,rfl,h9,_,_,rfl,h10,h11⟩:=h
 obtain⟨a1,c1,rfl,g1,_⟩:=AH h7
 obtain⟨a2,c2,rfl,g2,_⟩:=AH h8
 obtain⟨a3,c3,rfl,g3,_⟩:=AH h9
 obtain⟨rfl,s1,s2,s3⟩:=SO h10
 obtain⟨a4,c4,rfl,p1,g4⟩:=QZ h11
 exact⟨a1,c1,a2,c2,a3,c3,a4,c4,rfl,bounds_i64 h1,FV h2,FV h3,FV h4,bounds_i64 h5,bounds_i64 h6,s1,s2,s3,p1,g1,g2,g3,g4⟩
end
def Aac(k:Int):Nat:=if k<1∨14<k then 0 else [0,1,33,0,1,1,10,0,128,36,0,64,17,128,4].getD k.toNat 0
def Xc(k:Int)(p:Nat):Bool:=Aac k/p%2==1
def AaL(k:Int):Int:=if k=9 then 4 else 20
end Go.Bs
namespace Go.Proofs.YtfddhafbhceoaaaGreat
open Go.RowKit Go.Bs Go.Maps
variable{pos:Int}{B J J' rest:List UInt8}{xs:List Value}{base c c1 c2 c3 c4 g i k n p sz:Nat}{S:Nat → Prop}{a a1 a2 a3 a4:Option Addr}{s:Rs}{e:TypeId}{u v:Value}{W W' w w':World}
def Rs.AaF(B:List UInt8):Nat→Rs→List Int→Rs × List Int
  | 0,s,out=>(s,out)
  | n+1,s,out=>
    if (s.num B).1.k=0 then
      (if out≠[]∧18446744073709551615-out.getLastD 0≤((s.num B).2:Int) then ((s.num B).1.fail 13 s.p,[])
       else Rs.AaF B n (s.num B).1 (out++[if out=[] then ((s.num B).2:Int) else ((s.num B).2:Int)+(out.getLastD 0+1)]))
    else ((s.num B).1,[])
def Rs.many(B:List UInt8)(s:Rs)(m:Int):Rs × Nat:=(if (s.int B m).2=0 then (s.int B m).1.fail 3 s.p else (s.int B m).1,(s.int B m).2)
theorem Yq{α:Type}(l:List α)(i:Nat)(d:α)(h:i<l.length):l.getD i d=l[i]:=by
 rw[Ih,AF h];rfl
theorem Rs.TO(h:s.ok B.length):(s.ep B).1.ok B.length:=by
 have h2:=Rs.CZ (B:=B) h
 unfold Rs.ep
 split
 ·split
  ·exact h2
  ·exact Rs.Ck h2 zC
 ·exact h2
theorem Rs.TP(h:s.k≠0):s.ep B=(s,0):=by
 unfold Rs.ep
 rw[Rs.Kg h,Ai h]
structure Ua(w:World)(a:Option Addr)(n c:Nat)(g6 g8 L0:Nat)(lo y:Int)(st:Rs)(v:Value)(J:List (List Int))(W:World):Prop where
 d:Blk W g6 91 #[.slice a n c,.int .i64 (st.p:Int),.int .i64 st.k,.int .i64 st.f]
 s:Blk W g8 219 #[.int .u64 lo,.int .u64 y,v]
 r4:Blk W (w.heap.size+1) 91 #[.slice none 0 0,.int .i64 0,.int .i64 0,.int .i64 0]
 r5:Blk W (w.heap.size+1+1) 219 #[.int .u64 0,.int .u64 0,.slice none 0 0]
 own:A8 L0 Cb L0 37 1 W v J
 bel:Below w.heap.size w W
 le:L0≤W.heap.size
theorem Ua.later{g6 g8 L0:Nat}{lo y:Int}{st:Rs}{J:List (List Int)}(h:Ua w a n c g6 g8 L0 lo y st v J W)(hb:Below W.heap.size W W'):Ua w a n c g6 g8 L0 lo y st v J W':=
 ⟨h.d.later hb,h.s.later hb,h.r4.later hb,h.r5.later hb,A8.below h.own hb,Aj hb h.bel,Bb h.le hb.size⟩
structure XO(w:World)(a:Option Addr)(n c:Nat)(g6 g8 L0:Nat)(e:Int)(st:Rs)(v:Value)(J:List Oe)(W:World):Prop where
 d:Blk W g6 91 #[.slice a n c,.int .i64 (st.p:Int),.int .i64 st.k,.int .i64 st.f]
 s:Blk W g8 43 #[.int .u64 e,v]
 r4:Blk W (w.heap.size+1) 91 #[.slice none 0 0,.int .i64 0,.int .i64 0,.int .i64 0]
 r5:Blk W (w.heap.size+1+1) 43 #[.int .u64 0,.slice none 0 0]
 own:A8 L0 Ui L0 219 3 W v J
 bel:Below w.heap.size w W
 le:L0≤W.heap.size
theorem XO.later{g6 g8 L0:Nat}{e:Int}{st:Rs}{J:List Oe}(h:XO w a n c g6 g8 L0 e st v J W)(hb:Below W.heap.size W W'):XO w a n c g6 g8 L0 e st v J W':=
 ⟨h.d.later hb,h.s.later hb,h.r4.later hb,h.r5.later hb,A8.below h.own hb,Aj hb h.bel,Bb h.le hb.size⟩
theorem Tq(l:List Entry)(p:Int)(hR:C5 p l=true):(BW p l).length≤1000*l.length:=by
 induction l generalizing p with
 | nil=>simp [BW]
 | cons e l ih=>
  simp only[C5,Ap] at hR
  have h1:=Ny p e
  unfold JY at h1
  rw[Ag hR.1] at h1
  have h2:=ih (p+1) hR.2
  simp only[BW,Al,Ay]
  omega
theorem Oa{b:Batch}(hR:Bg b=true):(Bc b).length≤21+(BW b.base b.entries).length+(Bj (BM b.entries)).length∧(Bc b).length≤40+(AD (total b.entries)).length+total b.entries+(BW b.base b.entries).length∧(BW b.base b.entries).length≤16000:=by
 have hR':=hR
 simp only[Bg,Ap,Fi,Ao] at hR'
 have h1:=(A1 b.epoch.toNat).1
 have h2:=(A1 b.base.toNat).1
 have h3:=IY (x:=b.entries.length) zC
 have h4:=N5 (BM b.entries)
 rw[DJ] at h4
 have h5:=Tq b.entries b.base hR'.2.2.2
 simp only[Bc,JA,Al]
 omega
theorem LU(w:World){g base most:Nat}{J:List UInt8}{a:Option Addr}(h:BG w g base most J a c)(b:Batch)(al:Option Addr)(nl cl:Nat)(hN:Ec b)
 (hl:Br.r (fun q=>q<w.heap.size∧¬Dm g a q) w [.slice al nl cl] b.entries) (hR:Bg b=true) (ht:J0 b.entries) (hfit:J.length+(Bc b).length≤most) (hln2:J.length+(Bc b).length≤100000000000000):
  Calls Tryz.prog 222 #[.pointer (some ⟨g,0,none⟩),.agg #[.int .u64 b.epoch,.int .u64 b.base,.slice al nl cl]] w fun r w'=>r=.returned (.tuple #[])∧AA w g base most (J++Bc b) a w':=by
 obtain⟨rfl,hm,_,_⟩:=AL hl
 obtain⟨h0,h1,_⟩:=hN
 have HRT:=hid (fun (W:World) (hW:Below w.heap.size w W)=>Jy b al _ cl W h0 h1 (lift (Hg hl) hW) ht.fair)
 rw[hR] at HRT
 have hR':=hR
 simp only[Bg,Ap,Ao] at hR'
 obtain⟨hep,hfits,htot,hent⟩:=hR'
 have hfits':=hfits
 simp only[Fi,Ao] at hfits'
 have hbl:(Bc b).length=(AD b.epoch.toNat).length+(AD b.base.toNat).length+(AD b.entries.length).length+(BW b.base b.entries).length+(Bj (BM b.entries)).length:=by simp only[Bc,JA,Al]
 rw[hbl] at hfit hln2
 have hbb:Bc b=AD b.epoch.toNat++AD b.base.toNat++AD b.entries.length++BW b.base b.entries++Bj (BM b.entries):=rfl
 rw[hbb]
 have HE:=hid (fun (W:World) (hW:Below w.heap.size w W)=>(by have:=LM W (h.later hW) b.epoch.toNat (by rw[toNat_cast h0.1];exact hep) zC zC;rw[toNat_cast h0.1] at this;exact this:Calls Tryz.prog 162 #[.pointer (some ⟨g,0,none⟩),.int .u64 b.epoch] W fun r w'=>r=.returned (.tuple #[])∧AA W g base most (J++AD b.epoch.toNat) a w'))
 have hpo:poR b.base=true:=by unfold poR;exact Ad zC
 have HJL:=hid (DJ b.entries)
 have HP:=hid h
 have HL:=hid hl
 have HBK:=hid ht.backs
 have HEA:=hid (fun (k:Nat) (hk:k<b.entries.length)=>Jt b.entries b.base k hk hent)
 have HHS:=hid (fun (k:Nat) (hk:k<b.entries.length)=>Jh b.entries b.base k hk)
 have HHL:=hid (fun k=>Vo b.entries b.base k)
 have hto:=ht.tot
 obtain⟨ep,bs,l⟩:=b
 dsimp only at*
 clear h hl hR hbl hbb hep hent hfits ht
 go_enter Tryz.func222,Tryz.ntmps222
 go_wp2_with fail
 refine (HRT.out _ zA).mono ?_
 rintro r w1 ⟨rfl,hb1⟩
 have B1:=Blk.later (Blk.newAt w 48 #[.int .u64 ep,.int .u64 bs,.slice al l.length cl] rfl) hb1
 obtain⟨x0,x1,x2,_,_,_,l1⟩:=Dv B1
 have hbw1:Below w.heap.size w w1:=zA
 have HLT:=hid (fun q (hq:Dm g a q)=>(HP.out.BH hq).2)
 have HB1:=hid B1
 have HL1:=hid (GI hbw1 HL.out)
 have hs1:=hbw1.size
 clear B1 hb1
 go_wp2_with fail
 refine (HE.out _ hbw1).mono ?_
 rintro r w2 ⟨rfl,a2,c2,hp2,ht2,ha2⟩
 have B2:=HB1.out.tch ht2 (fun hf=>zBo)
 obtain⟨y0,y1,y2,_,_,_,l2⟩:=Dv B2
 have HV2:=hid ((by have:=Lb w2 hp2 bs.toNat (by rw[toNat_cast h1.1];exact hpo) zQ zQ;rw[toNat_cast h1.1] at this;exact this:Calls Tryz.prog 261 #[.pointer (some ⟨g,0,none⟩),.int .u64 bs] w2 fun r w'=>r=.returned (.tuple #[])∧AA w2 g base most (J++AD ep.toNat++AD bs.toNat) a2 w'))
 have HT2:=hid (And.intro ht2 ha2)
 have HL2:=hid (Fe ht2 ha2 HL1.out)
 have HB2:=hid B2
 have HNF2:=hid (fun (hf:Dm g a2 w.heap.size)=>FE ha2 HB1.out.lt (fun hf=>zBo) hf)
 have hs2:=ht2.size
 clear B2 hp2 ht2 ha2 x0 x1 x2
 go_wp2_with fail
 refine HV2.out.mono ?_
 rintro r w3 ⟨rfl,a3,c3,hp3,ht3,ha3⟩
 have B3:=HB2.out.tch ht3 (fun hf=>HNF2.out hf)
 obtain⟨x0,x1,x2,_,_,_,l3⟩:=Dv B3
 have HV3:=hid (CD w3 hp3 l.length zC zQ zQ)
 have HT3:=hid (And.intro ht3 ha3)
 have HL3:=hid (Fe ht3 ha3 HL2.out)
 have HB3:=hid B3
 have HNF3:=hid (fun (hf:Dm g a3 w.heap.size)=>FE ha3 HB2.out.lt (fun hf=>HNF2.out hf) hf)
 have hs3:=ht3.size
 clear B3 hp3 ht3 ha3 y0 y1 y2
 go_wp2_with fail
 refine HV3.out.mono ?_
 rintro r w4 ⟨rfl,a4,c4,hp4,ht4,ha4⟩
 have B4:=HB3.out.tch ht4 (fun hf=>HNF3.out hf)
 obtain⟨y0,y1,y2,_,_,_,l4⟩:=Dv B4
 have HT4:=hid (And.intro ht4 ha4)
 have HL4:=hid (Fe ht4 ha4 HL3.out)
 have HB4:=hid B4
 have HNF4:=hid (fun (hf:Dm g a4 w.heap.size)=>FE ha4 HB3.out.lt (fun hf=>HNF3.out hf) hf)
 have HP4:=hid hp4
 have hs4:=ht4.size
 clear B4 hp4 ht4 ha4 x0 x1 x2
 go_wp2_with fail
 clear y0 y1 y2
 go_loopw [28] (fun i wr=>∃k:Nat,k≤l.length∧i=.int .i64 k∧Hid (AA w4 g base most (J++AD ep.toNat++AD bs.toNat++AD l.length++BW bs (l.take k)) a4 wr)) (fun i _=>l.length-(intOf i).toNat)
 case atStart=>exact ⟨0,Ar _,rfl,hid (by simpa [BW] using AA.refl HP4.out)⟩
 case round=>
  obtain⟨k,hk,rfl,hp⟩:=hrel
  obtain⟨a5,c5,hp5,ht5,ha5⟩:=hp.out
  have B5:=HB4.out.tch ht5 (fun hf=>HNF4.out hf)
  obtain⟨x0,x1,x2,_,_,_,l5⟩:=Dv B5
  have hd5:=Fe ht5 ha5 HL4.out
  have hhl:=HHL.out (k+1)
  rcases Bl k l.length with hlt | hge
  ·obtain⟨bb,o,hA,hbb,a6,c6,a7,c7,z0,z1,hlk,hd⟩:=Fj hd5 hlt
   subst hA
   have hbl:bb<wr.heap.size:=Dn _ _ z0
   have hst:=HHS.out k hlt
   rw[hst,Al] at hhl
   have i1:(k:Int)<(l.length:Int):=zC
   have d1:decide ((k:Int)<(l.length:Int))=true:=Ad i1
   have hJ5:=hp5.len
   simp only[Al] at hJ5
   have hPT:=fun (W:World) (hW:Below wr.heap.size wr W)=>Oy W (hp5.later hW) (bs+k) zC l[k] a6 a7 _ c6 _ c7 (GI hW hlk) (lift (Hg hd) hW) (HEA.out k hlt) (HBK.out l[k] (A0 hlt)) zQ zQ
   have HPT:=hid hPT
   have HT5:=hid (And.intro ht5 ha5)
   have HST:=hid hst
   generalize l[k]=y at*
   clear hPT hp5 ht5 ha5 hp hst hlk hd hd5 hhl hJ5 B5
   go_wp2_with fail
   have hbW:Below wr.heap.size wr (wr.alloc (.cells #[.slice a6 y.links.length c6,.slice a7 y.data.length c7] 180)):=zA
   refine (HPT.out _ hbW).mono ?_
   rintro r w6 ⟨rfl,hst6⟩
   have hn:=AA.trans (J:=J) HT5.out.1 HT5.out.2 (AA.later hbW hst6)
   rw[Au _ (BW bs (l.take k)),←HST.out] at hn
   have HN:=hid hn
   clear hst6 hn x0 x1 x2
   go_wp2
   go_roundw
   case rel=>exact ⟨k+1,zC,zT,HN⟩
   case measure=>simp [intOf];omega
  ·obtain rfl:k=l.length:=by omega
   have d1:decide ((l.length:Int)<(l.length:Int))=false:=Ae zC
   rw[Cj] at hp5
   have HJN:=hid (fun (W:World) (hW:Br.r (·<W.heap.size) W [.slice al l.length cl] l)=>TR l al _ cl W hW zC)
   have HPW:=hid hp5
   have HD5:=hid hd5
   have HT5:=hid (And.intro ht5 ha5)
   clear hp ht5 ha5 hp5 hd5 B5
   go_wp2_with fail
   refine (HJN.out _ (Hg HD5.out)).mono ?_
   rintro r w6 ⟨v6,rfl,hr6,hb6⟩
   obtain⟨a8,c8,hv6,hr6',_⟩:=AH hr6
   simp only[Av,AI] at hv6
   subst hv6
   have HBP:=hid (Py w6 (HPW.out.later hb6) (BM l) a8 _ c8 (Ir HPW.out hr6') (by rw[HJL.out];omega) zQ zQ)
   clear hr6 hr6' x0 x1 x2
   go_wp2_with fail
   refine HBP.out.mono ?_
   rintro r w7 ⟨rfl,hst7⟩
   have hn:=AA.later hbw1 (AA.trans (J:=J) HT2.out.1 HT2.out.2 (AA.trans (J:=J) HT3.out.1 HT3.out.2 (AA.trans (J:=J) HT4.out.1 HT4.out.2 (AA.trans (J:=J) HT5.out.1 HT5.out.2 (AA.later hb6 hst7)))))
   have HN:Hid (AA w g base most (J++(AD ep.toNat++AD bs.toNat++AD l.length++BW bs l++Bj (BM l))) a w7):=hid (by simpa only[Au] using hn)
   clear hst7 hn
   go_wp2
   first | go_end0 | refine Ax (A4 rfl _ _ _) rfl ?_
   exact⟨rfl,HN.out⟩
theorem OC(w:World){g most:Nat}(h:BG w g base most J a c)(b:Batch)(al:Option Addr)(nl cl:Nat)(hN:Ec b)
 (hl:Br.r (·<w.heap.size) w [.slice al nl cl] b.entries) (hR:Bg b=false) (ht:J0 b.entries):
  Calls Tryz.prog 222 #[.pointer (some ⟨g,0,none⟩),.agg #[.int .u64 b.epoch,.int .u64 b.base,.slice al nl cl]] w fun r w'=>r=.returned (.tuple #[])∧Blk w' g 276 #[.int .i64 most,.slice a J.length c,.int .i64 3]∧Tch (·=g) w w':=by
 obtain⟨rfl,hm,_,_⟩:=AL hl
 obtain⟨h0,h1,_⟩:=hN
 have HRT:=hid (fun (W:World) (hW:Below w.heap.size w W)=>Jy b al _ cl W h0 h1 (lift hl hW) ht.fair)
 rw[hR] at HRT
 have HF:=hid (fun (W:World) (hW:Below w.heap.size w W)=>WG W (h.later hW) 3)
 obtain⟨ep,bs,l⟩:=b
 dsimp only at*
 clear h hl hR ht
 go_enter Tryz.func222,Tryz.ntmps222
 go_wp2_with fail
 refine (HRT.out _ zA).mono ?_
 rintro r w1 ⟨rfl,hb1⟩
 have hbw1:Below w.heap.size w w1:=zA
 go_wp2_with fail
 refine (HF.out _ hbw1).mono ?_
 rintro r w2 ⟨rfl,hB2,hT2⟩
 have HB2:=hid hB2
 have HT2:=hid hT2
 clear hB2 hT2
 go_wp2
 first | go_end0 | refine Ax (A4 rfl _ _ _) rfl ?_
 exact⟨rfl,HB2.out,Tch.trans (F:=(·=g)) (Tch.AW hbw1) HT2.out (fun _ _ h=>h)⟩
def IJ(b:Batch):List UInt8 × Int:=if Bg b=true then (Bc b,0) else ([],3)
theorem Sr(w:World)(b:Batch)(al:Option Addr)(nl cl:Nat)(hN:Ec b)(hl:Br.r (·<w.heap.size) w [.slice al nl cl] b.entries)(ht:J0 b.entries):
  Calls Tryz.prog 146 #[.agg #[.int .u64 b.epoch,.int .u64 b.base,.slice al nl cl]] w fun r w'=>∃v,r=.returned (.tuple #[v,.int .i64 (IJ b).2])∧Am.r (fun q=>w.heap.size≤q∧q<w'.heap.size) w' [v] (IJ b).1∧Below w.heap.size w w':=by
 obtain⟨rfl,hm,_,_⟩:=AL hl
 have HRM:=hid (fun (W:World) (hW:Below w.heap.size w W)=>T8 W b al _ cl hN.1 hN.2.1 (lift hl hW) ht)
 have HL:=hid hl
 unfold IJ
 cases hR:Bg b
 ·rw[Ai zM]
  have HPT:=hid (fun (W:World) {g base most:Nat} {a:Option Addr} {c:Nat} (h:BG W g base most [] a c) (hW:Below w.heap.size w W)=>OC W h b al _ cl hN (lift HL.out hW) hR ht)
  obtain⟨ep,bs,l⟩:=b
  dsimp only at*
  clear hl hR ht hN
  go_enter Tryz.func146,Tryz.ntmps146
  go_wp2_with fail
  refine (HRM.out _ zA).mono ?_
  rintro r w1 ⟨M,rfl,hM,_,hb1⟩
  have B1:=Blk.later (Blk.newAt w 48 #[.int .u64 ep,.int .u64 bs,.slice al l.length cl] rfl) hb1
  have hbw1:Below w.heap.size w w1:=zA
  have HN:=hid (Gh w1 M zC)
  clear hb1
  go_wp2_with fail
  refine HN.out.mono ?_
  rintro r w2 ⟨rfl,hp2,hb2⟩
  have B2:=B1.later hb2
  obtain⟨x0,x1,x2,_,_,_,l2⟩:=Dv B2
  have hbw2:=Aj hb2 hbw1
  have HP2:=hid (HPT.out w2 hp2 hbw2)
  have hs1:=hbw1.size
  clear hp2 B1 B2
  go_wp2_with fail
  refine HP2.out.mono ?_
  rintro r w3 ⟨rfl,hB3,hT3⟩
  have hbw3:Below w.heap.size w w3:=hbw2.trans (hT3.Ch hbw2.size (fun q _ e=>zC))
  have HB:=hid (On w3 (k:=3) zC hB3)
  clear hB3 hT3 x0 x1 x2
  go_wp2_with fail
  refine HB.out.mono ?_
  rintro r w4 ⟨rfl,rfl⟩
  go_wp2
  go_ret2
  exact⟨_,rfl,QA rfl rfl zC,hbw3⟩
 ·rw[Ag rfl]
  have hbl:=Oa hR
  have HPT:=hid (fun (W:World) {g base most:Nat} {a:Option Addr} {c:Nat} (h:BG W g base most [] a c) (hW:Br.r (fun q=>q<W.heap.size∧¬Dm g a q) W [.slice al b.entries.length cl] b.entries) (hf:(Bc b).length≤most)=>LU W h b al _ cl hN hW hR ht (by simpa using hf) (by have:=ht.tot;have:=(A1 (total b.entries)).1;simp;omega))
  have HRR:=hid hR
  generalize Bc b=K at*
  obtain⟨ep,bs,l⟩:=b
  dsimp only at*
  have HBL:=hid hbl
  clear hl hR ht hN hbl
  go_enter Tryz.func146,Tryz.ntmps146
  go_wp2_with fail
  refine (HRM.out _ zA).mono ?_
  rintro r w1 ⟨M,rfl,hM,hM2,hb1⟩
  have hfit:K.length≤M:=by have:=hM2 HRR.out;have:=HBL.out.2.1;omega
  have B1:=Blk.later (Blk.newAt w 48 #[.int .u64 ep,.int .u64 bs,.slice al l.length cl] rfl) hb1
  have hbw1:Below w.heap.size w w1:=zA
  have HN:=hid (Gh w1 M zC)
  clear hb1 hM2
  go_wp2_with fail
  refine HN.out.mono ?_
  rintro r w2 ⟨rfl,hp2,hb2⟩
  have B2:=B1.later hb2
  obtain⟨x0,x1,x2,_,_,_,l2⟩:=Dv B2
  have hbw2:=Aj hb2 hbw1
  have hs1:=hbw1.size
  have HPA:=hid hp2
  have HP2:=hid (HPT.out w2 hp2 (Br.mono (Br.keep HL.out fun q hq=>hbw2.block q hq) fun q hq=>⟨by have:=hbw2.size;omega,fun hf=>by have:=(hp2.BH hf).1;omega⟩) hfit)
  clear hp2 B1 B2
  go_wp2_with fail
  refine HP2.out.mono ?_
  rintro r w3 ⟨rfl,hst⟩
  rw[AG] at hst
  have hbw3:Below w.heap.size w w3:=hbw2.trans (HPA.out.below hs1 hbw2.size hst)
  obtain⟨a3,c3,hp3,_,_⟩:=hst
  have HB:=hid (Fx w3 hp3)
  have hs3:=hbw3.size
  clear hp3 x0 x1 x2
  go_wp2_with fail
  refine HB.out.mono ?_
  rintro r w4 ⟨v,rfl,hv,hb4⟩
  have hbe:=Aj hb4 hbw3
  have HV:=hid (Am.mono (S':=fun q=>w.heap.size≤q∧q<w4.heap.size) hv fun q hq=>⟨ZG,hq.2⟩)
  clear hv
  go_wp2
  go_ret2
  exact⟨_,rfl,HV.out,hbe⟩
theorem TS{α:Type}{xs ys:List α}(h:xs.take k=ys.take k)(h1:k<xs.length)(h2:k<ys.length)(he:xs[k]=ys[k]):xs.take (k+1)=ys.take (k+1):=by
 rw[AU h1,AU h2,h,he]
theorem AaP{α:Type}{xs ys:List α}(h1:k<xs.length)(h2:k<ys.length)(he:xs[k]≠ys[k]):xs≠ys:=fun e=>he (by subst e;rfl)
theorem FZ.tr{S':Nat→Prop}{m:Msg}{a1 c1 a2 c2 a3 c3 a4 c4}(f:∀{α:Type} (A:Rp α) (cs:List Value) (x:α),A.r S w cs x→A.r S' w' cs x)(h:FZ S w m a1 c1 a2 c2 a3 c3 a4 c4):FZ S' w' m a1 c1 a2 c2 a3 c3 a4 c4:=
 ⟨h.kind,h.epoch,h.seq,h.pos,h.count,h.state,h.sealE,h.sealN,h.sealT,h.projE,f _ _ _ h.streams,f _ _ _ h.links,f _ _ _ h.data,f _ _ _ h.stripes⟩
structure V8(w:World)(g base most:Nat)(J:List UInt8)(a:Option Addr)(c A B:Nat)(m:Msg)(a1:Option Addr)(c1:Nat)(a2:Option Addr)(c2:Nat)(a3:Option Addr)(c3:Nat)(a4:Option Addr)(c4:Nat):Prop where
 pen:BG w g base most J a c
 pa:Blk w A 202 #[.pointer (some ⟨g,0,none⟩)]
 pb:Blk w B 45 #[.int .i64 m.kind,.int .u64 m.epoch,.int .u64 m.seq,.int .u64 m.pos,.int .i64 m.count,.int .i64 m.state,.slice a1 m.streams.length c1,.slice a2 m.links.length c2,.slice a3 m.data.length c3,.int .u64 m.sea.epoch,.int .u64 m.sea.node,.int .u64 m.sea.tail,.int .u64 m.proj.epoch,.slice a4 m.proj.stripes.length c4]
 na:¬Dm g a A
 nb:¬Dm g a B
 data:FZ (fun q=>q<w.heap.size∧¬Dm g a q) w m a1 c1 a2 c2 a3 c3 a4 c4
theorem V8.later{most:Nat}{A B:Nat}{m:Msg}(h:V8 w g base most J a c A B m a1 c1 a2 c2 a3 c3 a4 c4)(hb:Below w.heap.size w w'):V8 w' g base most J a c A B m a1 c1 a2 c2 a3 c3 a4 c4:=
 ⟨h.pen.later hb,h.pa.later hb,h.pb.later hb,h.na,h.nb,FZ.tr (fun A cs x hx=>GI hb hx) h.data⟩
theorem V8.step{most:Nat}{A B:Nat}{m:Msg}(h:V8 w g base most J a c A B m a1 c1 a2 c2 a3 c3 a4 c4)(k:AA w g base most J' a w'):∃a' c',V8 w' g base most J' a' c' A B m a1 c1 a2 c2 a3 c3 a4 c4∧Tch (Dm g a) w w'∧(a'.map Addr.block=a.map Addr.block∨∃q,a'.map Addr.block=some q∧w.heap.size≤q):=by
 obtain⟨a',c',k1,k2,k3⟩:=k
 exact⟨a',c',⟨k1,h.pa.tch k2 h.na,h.pb.tch k2 h.nb,FE k3 h.pa.lt h.na,FE k3 h.pb.lt h.nb,FZ.tr (fun A cs x hx=>Fe k2 k3 hx) h.data⟩,k2,k3⟩
theorem FZ.low{g:Nat}{a:Option Addr}{w:World}{m:Msg}{a1 c1 a2 c2 a3 c3 a4 c4}(h:FZ (fun q=>q<w.heap.size∧¬Dm g a q) w m a1 c1 a2 c2 a3 c3 a4 c4):FZ (·<w.heap.size) w m a1 c1 a2 c2 a3 c3 a4 c4:=FZ.tr (fun A cs x hx=>Hg hx) h
open Go.RowKit Go.Bs
def Rh{α:Type}(K:Nat)(p:α→Bool)(l:List α):Bool:=decide (K<l.length) || (l.take K).any p
def FI{α:Type}(K:Nat)(p:α→Bool)(l:List α)(k:Nat):Bool:=decide (K<l.length) || ((l.take K).drop k).any p
theorem Nk{α:Type}{K:Nat}{p:α→Bool}{l:List α}(h:Rh K p l=false):l.length≤K∧∀x∈l,p x=false:=by
 simp only[Rh,Bool.or_eq_false_iff,decide_eq_false_iff_not,List.any_eq_false] at h
 obtain⟨h1,h2⟩:=h
 rw[Bp zC] at h2
 exact⟨zC,fun x hx=>by simpa using h2 x hx⟩
theorem Iw{α:Type}(K:Nat)(p:α→Bool)(l:List α)(k:Nat)(h:k<l.length)(h2:k<K):FI K p l k=(p l[k] || FI K p l (k+1)):=by
 unfold FI
 have e:(l.take K)[k]'zI=l[k]:=zM
 rw[AO (show k<(l.take K).length by simp;omega),List.any_cons,e]
 cases decide (K<l.length)<;>cases p l[k]<;>simp
theorem YU{α:Type}(K:Nat)(p:α→Bool)(l:List α)(k:Nat)(h:l.length≤k∨K≤k):FI K p l k=decide (K<l.length):=by
 unfold FI
 rw[List.drop_of_length_le zI]
 simp
def Ix(l:List Be):Bool:=Rh 50 (fun x=>decide (50<x.backs.length)) l
def Hz(e:Entry):Bool:=Ix e.links || decide (500<e.data.length)
def Hy(l:List Entry):Bool:=Rh 30 Hz l
def GV(l:List Entry):Bool:=Hy l || decide (300<total (l.take 30))
def Jf(l:List Batch):Bool:=Rh 20 (fun b=>GV b.entries) l
theorem Tj(l:List Be)(a:Option Addr)(n c:Nat)(w:World)(hl:Cx.r (·<w.heap.size) w [.slice a n c] l):
  Calls Tryz.prog 118 #[.slice a n c] w fun r w'=>r=.returned (.bool (Ix l))∧Below w.heap.size w w':=by
 obtain⟨rfl,hm,_,_⟩:=AL hl
 have HL:=hid hl;clear hl
 go_enter Tryz.func118,Tryz.ntmps118
 go_wp2_with fail
 go_loop [3] (fun i=>∃k:Nat,k≤l.length∧k≤50∧i=.int .i64 k∧Hid (Ix l=FI 50 (fun x=>decide (50<x.backs.length)) l k)) (fun i=>l.length-(intOf i).toNat)
 case atStart=>exact ⟨0,Ar _,Ar _,rfl,hid rfl⟩
 case round=>
  obtain⟨k,hk,hk2,rfl,hf⟩:=hrel
  by_cases hlt:k<l.length
  ·by_cases h450:k<50
   ·obtain⟨b,o,hA,hbb,a1,c1,X0,X1,_,_⟩:=FK HL.out hlt
    subst hA
    have hst:=hid (Iw 50 (fun x=>decide (50<x.backs.length)) l k hlt h450)
    generalize l[k]=x at*
    generalize x.stream=xs at*
    generalize x.backs.length=n1 at*
    by_cases h3:50<n1
    ·have hff:Hid (Ix l=true):=hid zAe
     have d3:decide ((50:Int)<(n1:Int))=true:=zI
     clear h3
     go_wp2
     go_ret
     exact⟨zP,zB⟩
    ·have hff:Hid (Ix l=FI 50 (fun x=>decide (50<x.backs.length)) l (k+1)):=hid zAe
     have d3:decide ((50:Int)<(n1:Int))=false:=zI
     clear h3
     go_wp2
     go_round
     case rel=>exact ⟨k+1,zC,zC,zT,hff⟩
     case measure=>simp [intOf];omega
   ·have hff:Hid (Ix l=decide ((50:Int)<(l.length:Int))):=hid ZH
    go_wp2
    go_ret
    exact⟨zP,zB⟩
  ·have hff:Hid (Ix l=decide ((50:Int)<(l.length:Int))):=hid ZI
   go_wp2
   go_ret
   exact⟨zP,zB⟩
theorem Ti(x:Entry)(a a':Option Addr)(n c n' c':Nat)(w:World)(hl:Cx.r (·<w.heap.size) w [.slice a n c] x.links)(hd:Am.r (·<w.heap.size) w [.slice a' n' c'] x.data):
  Calls Tryz.prog 215 #[.agg #[.slice a n c,.slice a' n' c']] w fun r w'=>r=.returned (.bool (Hz x))∧Below w.heap.size w w':=by
 obtain⟨rfl,hm,_,_⟩:=AL hl
 obtain⟨rfl,hm',_,_⟩:=AL hd
 have HL:=hid hl;clear hl hd
 have HLL:=hid (show Hz x=(Ix x.links || decide (500<x.data.length)) from rfl)
 go_enter Tryz.func215,Tryz.ntmps215
 go_wp2_with fail
 refine (Tj x.links _ _ _ _ (lift HL.out zB)).mono ?_
 rintro r w1 ⟨rfl,hb1⟩
 cases h:Ix x.links
 ·have hff:Hid (Hz x=decide ((500:Int)<(x.data.length:Int))):=hid (by rw[HLL.out,h,Bool.false_or];simp only[decide_eq_decide];omega)
  clear h
  have c1:w1.cell? ⟨w.heap.size,1,none⟩=some (.slice a' x.data.length c'):=(AM.mk w1 hb1).cell ZW
  go_wp2
  go_ret
  exact⟨zP,zB⟩
 ·have hff:Hid (Hz x=true):=hid (by rw[HLL.out,h];rfl)
  clear h
  go_wp2
  go_ret
  exact⟨zP,zB⟩
theorem Np(l:List Entry)(a:Option Addr)(n c:Nat)(w:World)(hl:Br.r (·<w.heap.size) w [.slice a n c] l):
  Calls Tryz.prog 141 #[.slice a n c] w fun r w'=>r=.returned (.bool (Hy l))∧Below w.heap.size w w':=by
 obtain⟨rfl,hm,_,_⟩:=AL hl
 have HL:=hid hl;clear hl
 go_enter Tryz.func141,Tryz.ntmps141
 go_wp2_with fail
 go_loopw [3] (fun i wr=>∃k:Nat,k≤l.length∧k≤30∧i=.int .i64 k∧Hid (Hy l=FI 30 Hz l k)∧Below w.heap.size w wr) (fun i _=>l.length-(intOf i).toNat)
 case atStart=>exact ⟨0,Ar _,Ar _,rfl,hid rfl,Below.refl _ _⟩
 case round=>
  obtain⟨k,hk,hk2,rfl,hf,hb⟩:=hrel
  by_cases hlt:k<l.length
  ·by_cases h450:k<30
   ·obtain⟨b,o,hA,hbb,a1,c1,a2,c2,X0,X1,hd1,hd2⟩:=Fj (lift HL.out hb) hlt
    subst hA
    have hst:=hid (Iw 30 Hz l k hlt h450)
    have HD1:=hid hd1;have HD2:=hid hd2;clear hd1 hd2
    generalize l[k]=x at*
    go_wp2_with fail
    refine (Ti x _ _ _ _ _ _ _ HD1.out HD2.out).mono ?_
    rintro r w1 ⟨rfl,hb1⟩
    have hb2:=Aj hb1 hb
    cases h3:Hz x
    ·have hff:Hid (Hy l=FI 30 Hz l (k+1)):=hid (by rw[hf.out,hst.out,h3];rfl)
     clear h3
     go_wp2
     go_roundw
     case rel=>exact ⟨k+1,zC,zC,zT,hff,hb2⟩
     case measure=>simp [intOf];omega
    ·have hff:Hid (Hy l=true):=hid (by rw[hf.out,hst.out,h3];rfl)
     clear h3
     go_wp2
     go_ret
     exact⟨zP,hb2⟩
   ·have hff:Hid (Hy l=decide ((30:Int)<(l.length:Int))):=hid ZH
    go_wp2
    go_ret
    exact⟨zP,hb⟩
  ·have hff:Hid (Hy l=decide ((30:Int)<(l.length:Int))):=hid ZI
   go_wp2
   go_ret
   exact⟨zP,hb⟩
theorem O2{l:List Entry}(h:Hy l=false):l.length≤30∧∀x∈l,x.data.length≤500∧x.links.length≤50∧∀y∈x.links,y.backs.length≤50:=by
 obtain⟨h1,h2⟩:=Nk h
 refine⟨h1,fun x hx=> ?_⟩
 have:=h2 x hx
 simp only[Hz,Bool.or_eq_false_iff,decide_eq_false_iff_not] at this
 obtain⟨h3,h4⟩:=Nk this.1
 exact⟨zC,h3,fun y hy=>by have:=h4 y hy;simpa using this⟩
theorem QO{l:List Entry}(h:∀x∈l,x.data.length≤k):total l≤k*l.length:=by
 induction l with
 | nil=>exact Ar _
 | cons x l ih=>
  have h1:=ih fun y hy=>h y (FR _ hy)
  have h2:=h x (Fl ..)
  simp only[total,Ca,List.sum_cons,Ay] at*
  rw[Nat.mul_succ];omega
theorem Th(e b:Int)(l:List Entry)(a:Option Addr)(n c:Nat)(w:World)(hl:Br.r (·<w.heap.size) w [.slice a n c] l):
  Calls Tryz.prog 86 #[.agg #[.int .u64 e,.int .u64 b,.slice a n c]] w fun r w'=>r=.returned (.bool (GV l))∧Below w.heap.size w w':=by
 obtain⟨rfl,hm,_,_⟩:=AL hl
 have HL:=hid hl;clear hl
 have HLL:=hid (show GV l=(Hy l || decide (300<total (l.take 30))) from rfl)
 cases hmn:Hy l
 ·obtain⟨g1,g2⟩:=O2 hmn
  have ht:=QO (k:=500) (fun x hx=>(g2 x hx).1)
  have hff:Hid (GV l=decide ((300:Int)<((total l:Nat):Int))):=hid (by rw[HLL.out,hmn,Bool.false_or,Bp g1];simp only[decide_eq_decide];omega)
  have hM:=fun W h=>Np l a l.length c W h
  rw[hmn] at hM
  have HM:=hid hM;clear hM hmn g2
  have HT:=hid ht;clear ht
  go_enter Tryz.func86,Tryz.ntmps86
  go_wp2_with fail
  refine Ee (fun W=>Below w.heap.size w W∧w.heap.size<W.heap.size∧W.cell? ⟨w.heap.size,2,none⟩=some (.slice a l.length c)) ⟨zB,zM,ZW⟩ ?_
  intro W ⟨hbW,hzW,q2⟩
  go_loop [3,4] (fun s i=>∃k:Nat,k≤l.length∧i=.int .i64 k∧s=.int .i64 (total (l.take k):Nat)) (fun _ i=>l.length-(intOf i).toNat)
  case atStart=>exact ⟨0,Ar _,rfl,rfl⟩
  case round=>
   obtain⟨k,hk,rfl,rfl⟩:=hrel
   by_cases hlt:k<l.length
   ·obtain⟨bb,o,hA,hbb,a1,c1,a2,c2,X0,X1,_,_⟩:=Fj (lift HL.out hbW) hlt
    subst hA
    have hs:=hid (J6 l k hlt)
    have h1:=Hw l (k+1)
    rw[hs.out] at h1
    have h2:=HT.out
    have d3:decide ((k:Int)<30)=true:=zI
    generalize l[k].links.length=n1 at*
    generalize l[k].data.length=n2 at*
    generalize total (l.take k)=t at*
    generalize total l=tt at*
    have h3:t+n2≤15000:=zC
    clear h1 h2
    go_wp2
    go_round
    case rel=>exact ⟨k+1,zC,zT,by rw[hs.out];simp only[Int.natCast_add]⟩
    case measure=>simp [intOf];omega
   ·obtain rfl:k=l.length:=by omega
    rw[Cj]
    go_wp2_with fail
    refine (HM.out _ (lift HL.out hbW)).mono ?_
    rintro r w1 ⟨rfl,hb1⟩
    go_wp2
    go_ret
    exact⟨zP,Aj hb1 hbW⟩
 ·have hff:Hid (GV l=true):=hid (by rw[HLL.out,hmn];rfl)
  have hM:=fun W h=>Np l a l.length c W h
  rw[hmn] at hM
  have HM:=hid hM;clear hM hmn
  go_enter Tryz.func86,Tryz.ntmps86
  go_wp2_with fail
  refine Ee (fun W=>Below w.heap.size w W∧w.heap.size<W.heap.size∧W.cell? ⟨w.heap.size,2,none⟩=some (.slice a l.length c)) ⟨zB,zM,ZW⟩ ?_
  intro W ⟨hbW,hzW,q2⟩
  go_loop [3,4] (fun s i=>∃(k:Nat) (m:Int),k≤l.length∧k≤30∧i=.int .i64 k∧s=.int .i64 m) (fun _ i=>l.length-(intOf i).toNat)
  case atStart=>exact ⟨0,0,Ar _,Ar _,rfl,rfl⟩
  case round=>
   obtain⟨k,m,hk,hk2,rfl,rfl⟩:=hrel
   by_cases hlt:k<l.length
   ·by_cases h30:k<30
    ·obtain⟨bb,o,hA,hbb,a1,c1,a2,c2,X0,X1,_,_⟩:=Fj (lift HL.out hbW) hlt
     subst hA
     generalize l[k].links.length=n1 at*
     generalize l[k].data.length=n2 at*
     go_wp2
     go_round
     case rel=>exact ⟨k+1,_,zC,zC,zT,rfl⟩
     case measure=>simp [intOf];omega
    ·go_wp2_with fail
     refine (HM.out _ (lift HL.out hbW)).mono ?_
     rintro r w1 ⟨rfl,hb1⟩
     go_wp2
     go_ret
     exact⟨zP,Aj hb1 hbW⟩
   ·go_wp2_with fail
    refine (HM.out _ (lift HL.out hbW)).mono ?_
    rintro r w1 ⟨rfl,hb1⟩
    go_wp2
    go_ret
    exact⟨zP,Aj hb1 hbW⟩
theorem Vg{l:List Entry}(h:GV l=false):l.length≤30∧total l≤300∧∀x∈l,x.data.length≤500∧x.links.length≤50∧∀y∈x.links,y.backs.length≤50:=by
 simp only[GV,Bool.or_eq_false_iff,decide_eq_false_iff_not] at h
 obtain⟨h1,h2⟩:=O2 h.1
 rw[Bp h1] at h
 exact⟨h1,zC,h2⟩
theorem Tg(e:Int)(l:List Batch)(a:Option Addr)(n c:Nat)(w:World)(hl:DN.r (·<w.heap.size) w [.slice a n c] l):
  Calls Tryz.prog 38 #[.agg #[.int .u64 e,.slice a n c]] w fun r w'=>r=.returned (.bool (Jf l))∧Below w.heap.size w w':=by
 obtain⟨rfl,hm,_,_⟩:=AL hl
 have HL:=hid hl;clear hl
 go_enter Tryz.func38,Tryz.ntmps38
 go_wp2_with fail
 refine Ee (fun W=>Below w.heap.size w W∧w.heap.size<W.heap.size∧W.cell? ⟨w.heap.size,1,none⟩=some (.slice a l.length c)) ⟨zB,zM,ZW⟩ ?_
 intro W ⟨hbW,hzW,q2⟩
 go_loopw [3] (fun i wr=>∃k:Nat,k≤l.length∧k≤20∧i=.int .i64 k∧Hid (Jf l=FI 20 (fun b=>GV b.entries) l k)∧Below W.heap.size W wr) (fun i _=>l.length-(intOf i).toNat)
 case atStart=>exact ⟨0,Ar _,Ar _,rfl,hid rfl,Below.refl _ _⟩
 case round=>
  obtain⟨k,hk,hk2,rfl,hf,hb⟩:=hrel
  have hb3:=Aj hb hbW
  have t1:wr.cell? ⟨w.heap.size,1,none⟩=some (.slice a l.length c):=(AM.mk wr hb).cell q2
  have hz3:w.heap.size<wr.heap.size:=Z3
  by_cases hlt:k<l.length
  ·by_cases h450:k<20
   ·obtain⟨b,o,hA,hbb,a1,c1,X0,X1,X2,_,_,hd⟩:=Jz (lift HL.out hb3) hlt
    subst hA
    have hst:=hid (Iw 20 (fun b=>GV b.entries) l k hlt h450)
    have HD:=hid hd;clear hd
    generalize l[k]=x at*
    go_wp2_with fail
    refine (Th _ _ x.entries _ _ _ _ HD.out).mono ?_
    rintro r w1 ⟨rfl,hb1⟩
    have hb2:=Aj hb1 hb
    cases h3:GV x.entries
    ·have hff:Hid (Jf l=FI 20 (fun b=>GV b.entries) l (k+1)):=hid zAe
     clear h3
     go_wp2
     go_roundw
     case rel=>exact ⟨k+1,zC,zC,zT,hff,hb2⟩
     case measure=>simp [intOf];omega
    ·have hff:Hid (Jf l=true):=hid zAe
     clear h3
     go_wp2
     go_ret
     exact⟨zP,Aj hb1 hb3⟩
   ·have hff:Hid (Jf l=decide ((20:Int)<(l.length:Int))):=hid ZH
    go_wp2
    go_ret
    exact⟨zP,hb3⟩
  ·have hff:Hid (Jf l=decide ((20:Int)<(l.length:Int))):=hid ZI
   go_wp2
   go_ret
   exact⟨zP,hb3⟩
theorem Vf{l:List Batch}(h:Jf l=false):l.length≤20∧∀b∈l,b.entries.length≤30∧total b.entries≤300∧∀x∈b.entries,x.data.length≤500∧x.links.length≤50∧∀y∈x.links,y.backs.length≤50:=by
 obtain⟨h1,h2⟩:=Nk h
 exact⟨h1,fun b hb=>Vg (h2 b hb)⟩
def WO:Msg:=⟨0,0,0,0,0,0,[],[],[],⟨0,0,0⟩,⟨0,[]⟩⟩
theorem Rs.Uw{e:Int}(h1:epR e=true)(h:B.drop p=AD e.toNat++rest):(⟨p,0,0⟩:Rs).ep B=(⟨p+(AD e.toNat).length,0,0⟩,e.toNat):=by
 have h2:=h1
 simp only[epR,Ao] at h2
 unfold Rs.ep
 rw[Rs.DB zC h]
 dsimp only
 rw[Ag rfl,toNat_cast zC,Ag h1]
def Rs.part{α:Type}(h:Bool)(s:Rs)(f:Rs→Rs × α)(z:α):Rs × α:=if h=true then f s else (s,z)
def Rs.AaY(B:List UInt8)(s:Rs):Rs × Int:=((s.po B).1,((s.po B).2:Int))
def Rs.cnt(B:List UInt8)(s:Rs):Rs × Int:=((s.many B 65536).1,((s.many B 65536).2:Int))
def Rs.stt(B:List UInt8)(k:Int)(s:Rs):Rs × Int:=
 let x:Int:=((s.byte B).2.toNat:Int)
 (if 1≤x∧x≤AaL k then (s.byte B).1 else (s.byte B).1.fail 3 s.p,x)
def Rs.AaV(B:List UInt8)(s:Rs):Rs × List Int:=Rs.AaF B (s.int B 16).2 (s.int B 16).1 []
structure AaU where
 pos:Int
 count:Int
 state:Int
 streams:List Int
 links:List Be
def Rs.ahead(B:List UInt8)(k:Int)(s:Rs):Rs × AaU:=
 let a:=Rs.part (Xc k 1) s (Rs.AaY B) 0
 let b:=Rs.part (Xc k 2) a.1 (Rs.cnt B) 0
 let c:=Rs.part (Xc k 4) b.1 (Rs.stt B k) 0
 let d:=Rs.part (Xc k 8) c.1 (Rs.AaV B) []
 let e:=Rs.part (Xc k 16) d.1 (fun t=>t.links B a.2) []
 (e.1,⟨a.2,b.2,c.2,d.2,e.2⟩)
section
variable {α:Type} {B:List UInt8} {s:Rs}
theorem Rs.SZ(h:s.k≠0):s.po B=(s,0):=by
 unfold Rs.po
 rw[Rs.Kg h,Ai h]
end
theorem Rs.NY(hs:s.ok B.length)(h:(s.byte B).1.k=0):B.drop s.p=[(s.byte B).2]++B.drop (s.byte B).1.p∧s.k=0:=by
 by_cases hk:s.k=0
 ·refine⟨?_,hk⟩
  by_cases hl:(B.length:Int)-s.p<1
  ·have:(s.byte B).1.k=1:=by
    unfold Rs.byte Rs.skip
    rw[Ag hk,Ai zC,Ag hl]
   omega
  ·have hle:=hs.le
   have e:s.byte B=(⟨s.p+1,0,0⟩,B.getD s.p 0):=by
    unfold Rs.byte Rs.skip
    rw[Ag hk,Ai zC,Ai hl]
    rfl
   rw[e]
   dsimp only
   rw[Yq B s.p 0 zC,AO (show s.p<B.length by omega)]
   rfl
 ·rw[Rs.Hq hk] at h
  exact absurd h hk
structure Od(w:World)(g:Nat)(B:List UInt8)(a:Option Addr)(fn:Nat)(caps:Array Value)(blk:Rs→Rs × List UInt8 × Bool)(K:Nat→Prop)(X:World→Bool→Prop):Prop where
 lt:∀b,K b→b<w.heap.size
 own:K g
 st:∀W W' q,X W q→w.heap.size≤W.heap.size→Tch (fun b=>b=g∨w.heap.size≤b) W W'→X W' q
 call:∀W t q0,AS W g B a t→X W q0→w.heap.size≤W.heap.size→Tch K w W→Calls Tryz.prog fn caps W fun r W'=>∃v,r=.returned v∧Am.r (Ie W W') W' [v] (blk t).2.1∧AS W' g B a (blk t).1∧Tch K W W'∧X W' (blk t).2.2
 size:∀t,(blk t).2.1.length≤1048576
 dat:Am.r (fun q=>q<w.heap.size∧¬K q) w [.slice a B.length B.length] B
 bad:∀t:Rs,t.k≠0→(blk t).1=t∧(blk t).2.1=[]
 ent:∀(xs:Array Value) (W:World),(callFunc fn xs).run Tryz.prog W=.ok (.enter fn xs) W
abbrev Sj(m:Msg)(v1 v2 v3 v4:Value):Array Value:=#[.int .i64 m.kind,.int .u64 m.epoch,.int .u64 m.seq,.int .u64 m.pos,.int .i64 m.count,.int .i64 m.state,v1,v2,v3,.int .u64 m.sea.epoch,.int .u64 m.sea.node,.int .u64 m.sea.tail,.int .u64 m.proj.epoch,v4]
abbrev zeroCells:Array Value:=#[.int .i64 0,.int .u64 0,.int .u64 0,.int .u64 0,.int .i64 0,.int .i64 0,.slice none 0 0,.slice none 0 0,.slice none 0 0,.int .u64 0,.int .u64 0,.int .u64 0,.int .u64 0,.slice none 0 0]
structure QK(w:World)(g:Nat)(B:List UInt8)(a:Option Addr)(K:Nat→Prop)(X:World→Bool→Prop)(q:Bool)(M lo:Nat)(k:Int)(m:Msg)(v1 v2 v3 v4:Value)(s:Rs)(W:World):Prop where
 rd:AS W g B a s
 dat:Am.r (fun b=>b<w.heap.size∧¬K b) W [.slice a B.length B.length] B
 pa:Blk W w.heap.size 112 #[.pointer (some ⟨g,0,none⟩)]
 pk:Blk W (w.heap.size+1) 3 #[.int .i64 k]
 pr:Blk W (w.heap.size+1+1) 45 zeroCells
 pm:Blk W M 45 (Sj m v1 v2 v3 v4)
 lm:w.heap.size+1+1<M∧M<lo
 low:lo≤W.heap.size
 st:Cb.r (fun b=>lo≤b∧b<W.heap.size) W [v1] m.streams
 ln:Cx.r (fun b=>lo≤b∧b<W.heap.size) W [v2] m.links
 da:Am.r (fun b=>lo≤b∧b<W.heap.size) W [v3] m.data
 sp:Fc.r (fun b=>lo≤b∧b<W.heap.size) W [v4] m.proj.stripes
 tch:Tch K w W
 x:X W q
section
variable {w:World} {g:Nat} {B:List UInt8} {a:Option Addr} {K:Nat→Prop} {X:World→Bool→Prop} {q:Bool} {M lo:Nat} {k:Int} {m:Msg} {v1 v2 v3 v4:Value} {s:Rs} {W:World} {fn:Nat} {caps:Array Value} {blk:Rs→Rs × List UInt8 × Bool}
theorem QK.AaD{q':Bool}{s':Rs}(hU:Od w g B a fn caps blk K X)(h:QK w g B a K X q M lo k m v1 v2 v3 v4 s W)(kt:Tch K W W')(kr:AS W' g B a s')(kx:X W' q'):QK w g B a K X q' M lo k m v1 v2 v3 v4 s' W':=by
 have hw:=h.tch.size
 have hlm:=h.lm
 have hK:∀b,w.heap.size≤b→¬K b:=fun b hb e=>absurd (hU.lt b e) zC
 have hk:∀b,lo≤b∧b<W.heap.size→W'.heap[b]? =W.heap[b]? :=fun b hb=>kt.block b hb.2 (hK b zC)
 have hm:∀b,lo≤b∧b<W.heap.size→lo≤b∧b<W'.heap.size:=fun b hb=>⟨hb.1,An hb.2 kt.size⟩
 exact⟨kr,Am.keep h.dat fun b hb=>kt.block b (An hb.1 hw) hb.2,h.pa.tch kt (hK _ (As _)),h.pk.tch kt (hK _ zC),h.pr.tch kt (hK _ zC),h.pm.tch kt (hK _ zC),hlm,Bb h.low kt.size,
  Cb.mono (Cb.keep h.st hk) hm,Cx.mono (Cx.keep h.ln hk) hm,Am.mono (Am.keep h.da hk) hm,Fc.mono (Fc.keep h.sp hk) hm,h.tch.trans kt fun b _ e=>e,kx⟩
theorem QK.step{s':Rs}(hU:Od w g B a fn caps blk K X)(h:QK w g B a K X q M lo k m v1 v2 v3 v4 s W)(kk:AE W g B a s' W'):QK w g B a K X q M lo k m v1 v2 v3 v4 s' W':=
 h.AaD hU (kk.2.mono fun b _ e=>e ▸ hU.own) kk.1 (hU.st W W' q h.x h.tch.size (kk.2.mono fun b _ e=> .inl e))
theorem QK.later(hU:Od w g B a fn caps blk K X)(h:QK w g B a K X q M lo k m v1 v2 v3 v4 s W)(hb:Below W.heap.size W W'):QK w g B a K X q M lo k m v1 v2 v3 v4 s W':=h.step hU (AE.later h.rd hb)
end
def KH:Rp (List Int):=rSl 1 (F6 .i64)
theorem Aan{xs:List Int}(h:KH.r S w [.slice a n c] xs)(hi:i<xs.length):∃b off,a=some ⟨b,off,none⟩∧S b∧w.cell? ⟨b,off+i,none⟩=some (.int .i64 xs[i]):=by
 obtain⟨b,off,e,hS,cs,_,hc,rfl,hw⟩:=I5 h hi
 have:=hc 0 _ rfl
 rw[E3,Ed] at this
 exact⟨b,off,e,hS,this⟩
theorem Xv(h:Am.r S w [.slice a B.length c] B)(h1:n≤B.length):
  (∀w':World,(Instr.slice 22 (.slice a B.length c) none (some (.int .i64 (n:Int))) (some (.int .i64 (n:Int)))).run Tryz.prog w'=.ok (.slice a n n) w')∧Am.r S w [.slice a n n] (B.take n):=by
 obtain⟨_,hm,hc,hcm⟩:=AL h
 have g1:(0:Int)≤(n:Int):=zC
 have g3:(n:Int)≤(c:Int):=zC
 refine⟨fun w'=> ?_,?_⟩
 ·clear h
  cases a with
  | none=>go_simp
  | some p=>go_simp
 ·obtain⟨a',c',e,h2,h3,h4⟩:=MA h h1
  have hl:(B.take n).length=n:=zI
  simp at e
  obtain⟨rfl,_,rfl⟩:=e
  exact Bv (a:=a) (c:=n) (by rw[hl]) zC zC h4
def Hm:List (List Be × Nat)→List UInt8→List Entry→Option (List Entry)
 | [],D,out=>if D.length=0 then some out else none
 | (l,n)::r,D,out=>if D.length<n then none else Hm r (D.drop n) (out++[⟨l,D.take n⟩])
theorem Sb:∀(H:List (List Be × Nat)) (D:List UInt8) (out:List Entry),Hm H D out=if D6 H=D.length then some (out++Gs H D) else none
 | [],D,out=>by
  simp only[Hm,D6,Gs,List.map_nil,List.sum_nil,Bu]
  split
  ·rw[Ag zC]
  ·rw[Ai zC]
 | (l,n)::r,D,out=>by
  have hs:D6 ((l,n)::r)=n+D6 r:=by simp[D6]
  simp only[Hm]
  rw[hs]
  split
  ·rw[Ai zC]
  ·rw[Sb r (D.drop n)]
   simp only[CA,Gs,Au,List.singleton_append]
   by_cases h:D6 r=D.length-n
   ·rw[Ag h,Ag zC]
   ·rw[Ai h,Ai zC]
theorem Kq(H:List (List Be × Nat))(D:List UInt8)(a1 a2 a3:Option Addr)(n1 n2 n3 c1 c2 c3:Nat)(w:World)(hh:Br.r (·<w.heap.size) w [.slice a1 n1 c1] (H.map Ji))(hs:KH.r (·<w.heap.size) w [.slice a2 n2 c2] (H.map fun h=>(h.2:Int)))
 (hd:Am.r (·<w.heap.size) w [.slice a3 n3 c3] D) (hH:H.length≤1000000) (hD:D.length≤1000000000) (hm:∀h∈H,h.1.length≤1000000000000∧∀z∈h.1,z.backs.length≤1000000000000):
  Calls Tryz.prog 206 #[.slice a1 n1 c1,.slice a2 n2 c2,.slice a3 n3 c3] w fun r w'=>∃v,r=.returned (.tuple #[v,.bool (Hm H D []).isSome])∧CK.r (Ie w w') w' [v] ((Hm H D []).getD [])∧Below w.heap.size w w':=by
 obtain⟨rfl,hm1,_,_⟩:=AL hh
 obtain⟨rfl,hm2,_,_⟩:=AL hs
 obtain⟨rfl,hm3,_,_⟩:=AL hd
 obtain⟨i0,hi,hz0,hz1,hz2⟩:=A5 LA
 obtain⟨j0,hj,hy0,hy1,hy2⟩:=A5 FL
 rw[FA] at hh hs
 have HH:=hid hh
 have HS:=hid hs
 have HD:=hid (fun (W:World) (hW:Below w.heap.size w W)=>Cm (lift hd hW))
 have HONE:=hid (Bi D)
 have HM:=hid hm
 rw[FA,FA]
 clear hh hs hd hm hm1 hm2 hm3
 go_enter Tryz.func206,Tryz.ntmps206
 go_wp2_with (at_builtin;go_loud (refine AB rfl _ _ _ rfl w.heap.size 5 j0 (.int .u8 0) 1 1 AJ hj hy0 hy1 hy2 rfl zL (.slice (some ⟨w.heap.size,0,none⟩) 0 0) 0 [] rfl (EO _ zM rfl) a3 D.length c3 (byteCells D) rfl (HD.out _ zA) HONE.out zO zC zM ?_;intro v5 w5 hown5 hgrow5 hat5;rw[A7,AG] at hown5;obtain⟨a5,c5,rfl⟩:=AV hown5;have hb5:Below w.heap.size w w5:=(Below.grown zA hgrow5 zM (fun g e=>ZP));have HO5:=hid (CG rfl hown5);clear hown5 hgrow5 hat5))
 go_loopw [8,9,23] (fun al v i wr=>∃(k:Nat) (J:List Entry) (R:List UInt8),k≤H.length∧i=.int .i64 k∧Am.r (fun q=>w.heap.size≤q∧q<w5.heap.size) wr [al] R∧R.length≤1000000000∧Hid (J.length=k)∧A8 w.heap.size FD w5.heap.size 180 2 wr v J∧Below w5.heap.size w5 wr∧Hid (Hm H D []=Hm (H.drop k) R J)) (fun _ _ i _=>H.length-(intOf i).toNat)
 case atStart=>exact ⟨0,[],D,Ar _,rfl,HO5.out,hD,hid rfl,A8.nil,Below.refl _ _,hid rfl⟩
 case round=>
  obtain⟨k,J,R,hk,rfl,hR,hRl,hJl,hown,hb,hsp⟩:=hrel
  have hbw:=hb5.trans (hb.mono hb5.size)
  have hsz5:=hb5.size
  have hszr:=hb.size
  obtain⟨A,cR,hA,hR',_⟩:=AH hR
  simp only[Av,AI] at hA
  subst hA
  obtain⟨av,cv,rfl⟩:=A8.form hown
  rcases Bl k H.length with hlt | hge
  ·have hxk:(H.map Ji)[k]'zA8=Ji H[k]:=by simp
   have hsk:(H.map fun h=>(h.2:Int))[k]'zA8=(H[k].2:Int):=zM
   obtain⟨b1,o1,hA1,hbb1,a4,c4,a6,c6,hc0,hc1,hd1,_⟩:=Fj HH.out (i:=k) zA8
   obtain⟨b2,o2,hA2,hbb2,he0⟩:=Aan HS.out (i:=k) zA8
   rw[hxk] at hc0 hc1 hd1
   rw[hsk] at he0
   subst hA1 hA2
   have hmk:=HM.out H[k] (A0 hlt)
   have hstep:Hm (H.drop k) R J=if R.length<H[k].2 then none else Hm (H.drop (k+1)) (R.drop H[k].2) (J++[⟨H[k].1,R.take H[k].2⟩]):=by
    rw[AO hlt];rfl
   generalize H[k]=z at*
   obtain⟨l,n⟩:=z
   dsimp only[Ji] at*
   have X0:=(hbw.cell (p:=⟨b1,o1+k*2,none⟩) hbb1).trans hc0
   have X1:=(hbw.cell (p:=⟨b1,o1+k*2+1,none⟩) hbb1).trans hc1
   have Y0:=(hbw.cell (p:=⟨b2,o2+k,none⟩) hbb2).trans he0
   have i1:(k:Int)<(H.length:Int):=zC
   have hJ9:J.length≤1000000:=zAh
   have hr1:b1<wr.heap.size:=zC
   have hr2:b2<wr.heap.size:=zC
   have hd1':=hid (lift hd1 hbw)
   have OW:=hid hown
   clear hc0 hc1 hd1 he0 hxk hsk hown
   rcases Bl R.length n with hlt2 | hge2
   ·rw[Ag hlt2] at hstep
    have HSP:=hid (hsp.out.trans hstep)
    have d1:decide ((n:Int)<0)=false:=Ae zC
    have d2:decide ((R.length:Int)<(n:Int))=true:=Ad zC
    clear hsp hstep hR hR'
    go_wp2
    rw[HSP.out]
    refine Ax (v:=.tuple #[.slice none 0 0,.bool false]) zAn rfl ⟨_,rfl,⟨none,0,rfl,As _,Ar _,.inl rfl⟩,zA⟩
   ·rw[Ai zC] at hstep
    have HSP:=hid (hsp.out.trans hstep)
    have d1:decide ((n:Int)<0)=false:=Ae zC
    have d2:decide ((R.length:Int)<(n:Int))=false:=Ae zC
    obtain⟨hcut,hrc⟩:=Xv hR' hge2
    obtain⟨A',c',hcut2,hrd⟩:=Aar hR' hge2
    have HC:=hid (fun (W:World) (hW:Below wr.heap.size wr W)=>Td l a4 l.length c4 W (lift hd1'.out hW) hmk.1 hmk.2)
    have HRC:=hid hrc
    have HRD:=hid hrd
    clear hsp hstep hR hR' hrc hrd hmk
    go_wp2_with fail
    refine (HC.out _ zA).mono ?_
    rintro r w7 ⟨v7,rfl,hv7,hb7⟩
    obtain⟨a7,c7,hfv,_,_⟩:=AH (FJ hv7)
    simp only[Av,AI] at hfv
    subst hfv
    have B7:Blk w7 wr.heap.size 180 #[.slice a4 l.length c4,.slice a6 0 c6]:=Blk.later zD hb7
    obtain⟨x0,x1,f0,f1,l7⟩:=Bd B7
    obtain⟨z0,z1,g0,g1,m7⟩:=Bd (B7.set 0 (.slice a7 l.length c7))
    have hb78:Below wr.heap.size wr w7:=zA
    have hz7:=hb7.size
    simp at hz7
    have hb8:Below wr.heap.size wr (((w7.setCell ⟨wr.heap.size,0,none⟩ (.slice a7 l.length c7)).setCell ⟨wr.heap.size,1,none⟩ (.slice A n n)).alloc (.cells #[.slice a7 l.length c7,.slice A n n] 180)):=zA
    have hk8:∀q,wr.heap.size+1≤q→q<w7.heap.size→((((w7.setCell ⟨wr.heap.size,0,none⟩ (.slice a7 l.length c7)).setCell ⟨wr.heap.size,1,none⟩ (.slice A n n)).alloc (.cells #[.slice a7 l.length c7,.slice A n n] 180))).heap[q]? =w7.heap[q]? :=fun q h1 h2=>
     (AN _ _ q zI).trans ((At _ _ _ _ zH).trans (At _ _ _ _ zH))
    have hsz8:((((w7.setCell ⟨wr.heap.size,0,none⟩ (.slice a7 l.length c7)).setCell ⟨wr.heap.size,1,none⟩ (.slice A n n)).alloc (.cells #[.slice a7 l.length c7,.slice A n n] 180))).heap.size=w7.heap.size+1:=zM
    obtain⟨cells0,OA0⟩:=OW.out
    have hlt0:∀q,(Value.slice av J.length cv).ownBlock=some q→w5.heap.size≤q∧q<wr.heap.size:=fun q e=>BH OA0.1 q e
    obtain⟨cells,OA⟩:=A8.below OW.out hb8
    have hx:FD.r (fun b=>w.heap.size≤b∧b<((((w7.setCell ⟨wr.heap.size,0,none⟩ (.slice a7 l.length c7)).setCell ⟨wr.heap.size,1,none⟩ (.slice A n n)).alloc (.cells #[.slice a7 l.length c7,.slice A n n] 180))).heap.size∧(Value.slice av J.length cv).ownBlock≠some b) ((((w7.setCell ⟨wr.heap.size,0,none⟩ (.slice a7 l.length c7)).setCell ⟨wr.heap.size,1,none⟩ (.slice A n n)).alloc (.cells #[.slice a7 l.length c7,.slice A n n] 180))) [.slice a7 l.length c7,.slice A n n] ⟨l,R.take n⟩:=by
     refine Ps (EM.mono (EM.keep hv7 (w':=(((w7.setCell ⟨wr.heap.size,0,none⟩ (.slice a7 l.length c7)).setCell ⟨wr.heap.size,1,none⟩ (.slice A n n)).alloc (.cells #[.slice a7 l.length c7,.slice A n n] 180))) fun q hq=>hk8 q Z9 hq.2) fun q hq=>⟨?_,?_,fun e=> ?_⟩) (Am.mono (Am.keep HRC.out (w':=(((w7.setCell ⟨wr.heap.size,0,none⟩ (.slice a7 l.length c7)).setCell ⟨wr.heap.size,1,none⟩ (.slice A n n)).alloc (.cells #[.slice a7 l.length c7,.slice A n n] 180))) fun q hq=>hb8.block q zC) fun q hq=>⟨hq.1,?_,fun e=> ?_⟩)
     ·have:=hq.1;simp at this;omega
     ·have:=hq.2;omega
     ·have:=hlt0 q e;have:=hq.1;simp at this;omega
     ·have:=hq.2;omega
     ·have:=hlt0 q e;have:=hq.2;omega
    have HX:=hid hx
    have HA:=hid OA
    have HS9:Hid (w5.heap.size≤((((w7.setCell ⟨wr.heap.size,0,none⟩ (.slice a7 l.length c7)).setCell ⟨wr.heap.size,1,none⟩ (.slice A n n)).alloc (.cells #[.slice a7 l.length c7,.slice A n n] 180))).heap.size):=hid (by rw[hsz8];omega)
    have HB8:=hid hb8
    clear hx OA OA0 hlt0 hk8 hb7 hb8 hsz8 hb78 hv7 B7 OW
    go_wp2_with (at_builtin;go_loud (refine AB rfl _ _ _ rfl w5.heap.size 180 i0 (.agg #[.slice none 0 0,.slice none 0 0]) 2 48 Tryz.underlying46 hi hz0 hz1 hz2 rfl zL (.slice av J.length cv) J.length _ rfl HA.out.1 (some ⟨w7.heap.size,0,none⟩) 1 1 [.slice a7 l.length c7,.slice A n n] rfl (BU ((w7.setCell ⟨wr.heap.size,0,none⟩ (.slice a7 l.length c7)).setCell ⟨wr.heap.size,1,none⟩ (.slice A n n)) 180 _ rfl zM rfl) (by intro u hu;simp at hu;rcases hu with rfl | rfl<;>rfl) zO zC HS9.out ?_;intro v9 w9 hown9 hgrow9 hat9;obtain⟨a9,c9,rfl⟩:=AV hown9;have OP:=hid (A8.push HA.out rfl HX.out hown9 hgrow9 hat9 hgrow9.size);have hb9:Below w5.heap.size wr w9:=(Below.grown (HB8.out.mono hszr) hgrow9 HS9.out (fun g e=>(BH HA.out.1 g e).1));clear hown9 hgrow9 hat9))
    have HRD9:=hid (Am.keep HRD.out (w':=w9) fun q hq=>hb9.block q hq.2)
    have HB9:=hid (hb.trans hb9)
    go_roundw
    case rel=>exact ⟨k+1,J++[⟨l,R.take n⟩],R.drop n,zC,zT,HRD9.out,zI,hid Z4,OP.out,HB9.out,HSP⟩
    case measure=>simp [intOf];omega
  ·obtain rfl:k=H.length:=by omega
   have hE:=hsp.out
   rw[IP] at hE
   have HV:=hid (A8.I4 (A:=FD) (by exact hsz5) hown)
   clear hsp hown
   by_cases hR0:R.length=0
   ·have HSP:Hid (Hm H D []=some J):=hid (by rw[hE];simp only[Hm];rw[Ag hR0])
    have d1:decide (0<(R.length:Int))=false:=Ae zC
    clear hE hR hR'
    go_wp2
    rw[HSP.out]
    refine Ax (v:=.tuple #[.slice av J.length cv,.bool true]) zAn rfl ⟨_,rfl,?_,zA⟩
    exact HV.out
   ·have HSP:Hid (Hm H D []=none):=hid (by rw[hE];simp only[Hm];rw[Ai hR0])
    have d1:decide (0<(R.length:Int))=true:=Ad zC
    clear hE hR hR'
    go_wp2
    rw[HSP.out]
    refine Ax (v:=.tuple #[.slice none 0 0,.bool false]) zAn rfl ⟨_,rfl,⟨none,0,rfl,As _,Ar _,.inl rfl⟩,zA⟩
end Go.Proofs.YtfddhafbhceoaaaGreat
