/- Mini: Needed by lookupWhole_walk, part 8: texts put together by shake.py; no condition. -/
import Derived.Test.YtmioakocnebceaaGreatWK7
import Derived.Test.YtmioakocnebceaaGreatWK5
import Derived.Test.YtmioakocnebceaaGreatWK2
import Derived.Laws.Bits64
import Derived.Test.YtmioakocnebceaaGreatWK3
import Derived.Test.YtmioakocnebceaaGreatWK1
import Derived.Test.YtmioakocnebceaaGreatWK6
import Derived.Deep.RegionHeld3
import Derived.Test.YtmioakocnebceaaGreatWK4
import Derived.Deep.Cut
import Derived.Deep.CutRange
import Derived.BigRegion
import Derived.Scope
import Derived.Test.YtmioakocnebceaaGreatProg
import Derived.WalkKit
import Derived.Deep.WholeRow
import Derived.BigQuiet
set_option linter.unusedVariables false
set_option linter.unusedSimpArgs false
set_option maxRecDepth 100000
set_option maxHeartbeats 6400000
namespace Go.Proofs.YtmioakocnebceaaGreat
open Go.RowKit Go.Bs Go.Maps
def headE(h:List Link × Nat):Entry:=⟨h.1,[]⟩
def sizeCells(l:List (List Link × Nat)):List Value:=l.map fun h=> .int .i64 (h.2:Int)
theorem Rs.ehead_le{B:List UInt8}{s:Rs}{pos most:Int}:(s.ehead B pos most).2.2≤most.toNat:=by
 unfold Rs.ehead
 split
 ·exact Rs.int_le
 ·exact Nat.zero_le _
structure HeadsAt(lo:Nat)(W:World)(v u:Value)(J:List (List Link × Nat)):Prop where
 els:∃cells,OwnElsF (fun b=>lo≤b∧b<W.heap.size∧u.ownBlock≠some b) rEntryW lo 84 2 W v (J.map headE) cells
 szs:W.ownsRow lo 3 1 u J.length (sizeCells J)
theorem own_ne{W:World}{lo lo':Nat}{e e':TypeId}{sz sz' n m:Nat}{v u:Value}{xs ys:List Value}(h:W.ownsRow lo e sz v n xs)(h':W.ownsRow lo' e' sz' u m ys)(hne:e≠e'):∀b,v.ownBlock=some b→u.ownBlock≠some b:=by
 intro b hv hu
 rcases h.2 with ⟨rfl,_⟩ | ⟨g,cap,cur,rfl,_,hg,_⟩
 ·cases hv
 ·rcases h'.2 with ⟨rfl,_⟩ | ⟨g',cap',cur',rfl,_,hg',_⟩
  ·cases hu
  ·have e1:g=b:=by simpa [Value.ownBlock] using hv
   have e2:g'=b:=by simpa [Value.ownBlock] using hu
   subst e1 e2
   rw[hg] at hg'
   simp at hg'
   exact hne hg'.2
theorem own_stays{W W':World}{lo:Nat}{e:TypeId}{sz n:Nat}{v:Value}{xs:List Value}(h:W.ownsRow lo e sz v n xs)(hk:∀b,v.ownBlock=some b→b<W.heap.size→W'.heap[b]? =W.heap[b]?):W'.ownsRow lo e sz v n xs:=by
 refine⟨h.1,?_⟩
 rcases h.2 with h0 | ⟨g',cap,cur,h1,h2,h3,h4⟩
 ·exact .inl h0
 ·exact .inr ⟨g',cap,cur,h1,h2,(hk g' (by rw[h1];rfl) (Blk.lt h3)).trans h3,h4⟩
theorem own_lt{W:World}{lo:Nat}{e:TypeId}{sz n:Nat}{v:Value}{xs:List Value}(h:W.ownsRow lo e sz v n xs):∀b,v.ownBlock=some b→lo≤b∧b<W.heap.size:=by
 intro b hv
 rcases h.2 with ⟨rfl,_⟩ | ⟨g,cap,cur,rfl,hb,hg,_⟩
 ·cases hv
 ·have e1:g=b:=by simpa [Value.ownBlock] using hv
  subst e1
  exact⟨hb,Blk.lt hg⟩
theorem HeadsAt.nil{lo:Nat}{W:World}:HeadsAt lo W (.slice none 0 0) (.slice none 0 0) []:=⟨⟨[],OwnElsF.nil⟩,⟨rfl,.inl ⟨rfl,rfl⟩⟩⟩
theorem HeadsAt.formv{lo:Nat}{W:World}{v u:Value}{J:List (List Link × Nat)}(h:HeadsAt lo W v u J):∃a c,v=.slice a J.length c:=by
 obtain⟨⟨cells,OA⟩,hu⟩:=h
 have:=own_form OA.1
 rwa [List.length_map] at this
theorem HeadsAt.tch{lo g:Nat}{W W':World}{v u:Value}{J:List (List Link × Nat)}(h:HeadsAt lo W v u J)(hb:Tch (fun b=>b=g∨W.heap.size≤b) W W')(hg:g<lo):HeadsAt lo W' v u J:=by
 obtain⟨⟨cells,OA⟩,hu⟩:=h
 have hk:∀b,lo≤b→b<W.heap.size→W'.heap[b]? =W.heap[b]? :=fun b h1 h2=>hb.block b h2 (by omega)
 refine⟨⟨cells,?_⟩,own_stays hu fun b hv hl=>hk b (own_lt hu b hv).1 hl⟩
 refine OwnElsF.mono (OwnElsF.keep OA (fun b h=>hk b h.1 h.2.1) fun b hv=>hk b (own_lt OA.1 b hv).1 (own_lt OA.1 b hv).2) fun b h=>⟨h.1,Nat.lt_of_lt_of_le h.2.1 hb.size,h.2.2⟩
structure HeadsMid(lo:Nat)(B:Nat)(W:World)(v u:Value)(J J':List (List Link × Nat)):Prop where
 els:∃cells,OwnElsF (fun b=>lo≤b∧b<B∧u.ownBlock≠some b) rEntryW lo 84 2 W v (J'.map headE) cells
 szs:W.ownsRow lo 3 1 u J.length (sizeCells J)
 le:B≤W.heap.size
theorem HeadsMid.of{lo:Nat}{W W':World}{v v' u:Value}{J:List (List Link × Nat)}{x:List Link × Nat}{cells:List (List Value)}{news:List Value}
  (OA:OwnElsF (fun b=>lo≤b∧b<W.heap.size∧u.ownBlock≠some b) rEntryW lo 84 2 W v (J.map headE) cells) (hu:W.ownsRow lo 3 1 u J.length (sizeCells J))
  (hn:news.length=2) (hx:rEntryW.r (fun b=>(lo≤b∧b<W.heap.size∧u.ownBlock≠some b)∧v.ownBlock≠some b) W news (headE x))
  (hown:W'.ownsRow lo 84 2 v' (J.length+1) (cells.flatten++news)) (hg:W.grownBy W' v.ownBlock) (hat:v'.ownBlock=v.ownBlock∨v'.ownBlock=some W.heap.size):HeadsMid lo W.heap.size W' v' u J (J++[x]):=by
 refine⟨⟨cells++[news],?_⟩,own_stays hu fun b hv hl=>hg.block b hl (fun e=>own_ne OA.1 hu (by decide) b e.symm hv),hg.size⟩
 rw[List.map_append,List.map_cons,List.map_nil]
 exact OwnElsF.push OA (fun b hb=>hb.2.1) hn hx (by simpa using hown) hg hat
theorem HeadsMid.below{lo B:Nat}{W W':World}{v u:Value}{J J':List (List Link × Nat)}(h:HeadsMid lo B W v u J J')(hb:Below W.heap.size W W'):HeadsMid lo B W' v u J J':=by
 obtain⟨⟨cells,OA⟩,hu,hB⟩:=h
 exact⟨⟨cells,OwnElsF.keep OA (fun b h=>hb.block b (by have:=h.2.1;omega)) fun b hv=>hb.block b (own_lt OA.1 b hv).2⟩,own_stays hu fun b hv hl=>hb.block b hl,by have:=hb.size;omega⟩
theorem HeadsMid.to{lo B:Nat}{W W':World}{v u u':Value}{J:List (List Link × Nat)}{x:List Link × Nat}(h:HeadsMid lo B W v u J (J++[x]))
  (hown:W'.ownsRow lo 3 1 u' (J.length+1) (sizeCells J++[.int .i64 (x.2:Int)])) (hg:W.grownBy W' u.ownBlock) (hat:u'.ownBlock=u.ownBlock∨u'.ownBlock=some W.heap.size):HeadsAt lo W' v u' (J++[x]):=by
 obtain⟨⟨cells,OA⟩,hu,hB⟩:=h
 refine⟨⟨cells,?_⟩,?_⟩
 ·refine OwnElsF.mono (OwnElsF.keep OA (fun b h=>hg.block b (by have:=h.2.1;omega) (fun e=>h.2.2 e.symm)) fun b hv=>hg.block b (own_lt OA.1 b hv).2 (fun e=>own_ne OA.1 hu (by decide) b hv e.symm)) fun b h=>⟨h.1,?_,fun e=> ?_⟩
  ·have:=h.2.1;have:=hg.size;omega
  ·rcases hat with h' | h'
   ·exact h.2.2 (h' ▸ e)
   ·rw[h'] at e;have:=Option.some.inj e;have:=h.2.1;omega
 ·have e:sizeCells (J++[x])=sizeCells J++[.int .i64 (x.2:Int)]:=by simp[sizeCells]
  rw[e,List.length_append]
  exact hown
theorem HeadsAt.out{lo:Nat}{W:World}{v u:Value}{J:List (List Link × Nat)}(h:HeadsAt lo W v u J):rEntriesW.r (fun b=>lo≤b∧b<W.heap.size) W [v] (J.map headE):=by
 obtain⟨⟨cells,OA⟩,hu⟩:=h
 exact OwnEls.sliceW (Nat.le_refl _) ⟨cells,OwnElsF.to OA fun b h=>⟨h.1,h.2.1⟩⟩
theorem batch_heads(w:World){g:Nat}{B:List UInt8}{a:Option Addr}{s:Rs}(h:RdAt w g B a s)(hB:B.length≤1000000000)(pos:Int)(N:Nat)(hN:N≤16)(hpos:0≤pos∧pos+N≤18446744073709551615):
  Calls Tryz.prog 281 #[.pointer (some ⟨g,0,none⟩),.int .u64 pos,.int .i64 N] w fun r w'=>∃v u,r=.returned (.tuple #[v,u])∧HeadsAt w.heap.size w' v u (Rs.heads B N s pos 1048576 []).2∧RdStep w g B a (Rs.heads B N s pos 1048576 []).1 w':=by
 obtain⟨i0,hi,hz0,hz1,hz2⟩:=info_parts infoEntry
 obtain⟨j0,hj,hy0,hy1,hy2⟩:=info_parts infoInt
 have hlt:=h.blk.lt
 have HIN:=hid (RdInv.refl h)
 clear h
 go_enter Tryz.func281,Tryz.ntmps281
 go_wp2
 go_loopw [8,9,10,15] (fun v u l i wr=>∃(k:Nat) (J:List (List Link × Nat)) (st:Rs) (left:Int),k≤N∧i=.int .i64 k∧l=.int .i64 left∧0≤left∧left≤1048576∧Hid (J.length=k)∧HeadsAt w.heap.size wr v u J∧Hid (RdInv w wr g B a st)∧Hid (Rs.heads B N s pos 1048576 []=Rs.heads B (N-k) st (pos+k) left J)) (fun _ _ _ i _=>N-(intOf i).toNat)
 case atStart=>exact ⟨0,[],s,1048576,Nat.zero_le _,rfl,rfl,by omega,by omega,hid rfl,HeadsAt.nil,HIN,hid (by simp)⟩
 case round=>
  obtain⟨k,J,st,left,hk,rfl,rfl,hl0,hl1,hJl,hown,hin,hsp⟩:=hrel
  obtain⟨av,cv,rfl⟩:=HeadsAt.formv hown
  obtain⟨au,cu,rfl⟩:=own_form hown.szs
  rcases Nat.lt_or_ge k N with hlt2 | hge
  ·have HER:=hid (entry_readhead wr hin.out.rd hB (pos+k) (by omega) left (by omega))
   have hle:=Rs.ehead_le (B:=B) (s:=st) (pos:=pos+k) (most:=left)
   have hstep:Rs.heads B (N-k) st (pos+k) left J=(if (st.ehead B (pos+k) left).1.k=0 then Rs.heads B (N-(k+1)) (st.ehead B (pos+k) left).1 (pos+k+1) (left-(st.ehead B (pos+k) left).2.2) (J++[(st.ehead B (pos+k) left).2]) else ((st.ehead B (pos+k) left).1,[])):=by
    rw[show N-k=(N-(k+1))+1 by omega];rfl
   have hsz0:=hin.out.tch.size
   have hJ16:J.length≤16:=by have:=hJl.out;omega
   have i1:(k:Int)<(N:Int):=by omega
   have d1:decide ((k:Int)<(N:Int))=true:=decide_eq_true i1
   have d1':decide (k<N)=true:=decide_eq_true hlt2
   have c1:0≤pos+(k:Int):=by omega
   have c2:pos+(k:Int)≤18446744073709551615:=by omega
   have HO:=hid hown
   generalize st.ehead B (pos+k) left=EH at*
   obtain⟨s2,l,n⟩:=EH
   dsimp only at*
   clear hown
   go_wp2_with fail
   refine HER.out.mono ?_
   rintro r w1 ⟨v1,rfl,hv1,hst1⟩
   obtain⟨a1,c1',hfv,_,_⟩:=sl_form (linksW_links hv1)
   simp only[List.cons.injEq,and_true] at hfv
   subst hfv
   have HIN1:=hid (hin.out.step hst1)
   have HO1:=hid (HeadsAt.tch HO.out (hst1.2.mono fun b hb e=> .inl e) hlt)
   have hsz1:=HIN1.out.tch.size
   have HV1:=hid hv1
   clear hst1 hv1
   by_cases hk2:s2.k=0
   ·rw[if_pos hk2] at hstep
    have HSP:=hid (hsp.out.trans hstep)
    have HG:=hid (fun (W:World) (hW:RdAt W g B a s2)=>(by have:=rd_good W hW;rw[decide_eq_true hk2] at this;exact this:Calls Tryz.prog 151 #[.pointer (some ⟨g,0,none⟩)] W fun r w'=>r=.returned (.bool true)∧Below W.heap.size W w'))
    have w1':0≤left-(n:Int):=by omega
    have w2':left-(n:Int)≤1048576:=by omega
    clear hsp hstep hk2
    go_wp2_with fail
    refine (HG.out _ (HIN1.out.row ((by (repeat (first | with_reducible exact Below.refl _ _ | with_reducible assumption | (with_reducible refine below_alloc ?_ _) | (with_reducible refine Below.setCell ?_ (by first | omega | (simp;done) | (simp;omega)) _) | (with_reducible refine Below.drew ?_) | (with_reducible refine below_drewN ?_ _) | (refine below_then (by with_reducible assumption) ?_))):Below w1.heap.size w1 _).mono hsz1)).rd).mono ?_
    rintro r w3 ⟨rfl,hb3⟩
    have B3:Blk w3 w1.heap.size 84 #[.slice a1 l.length c1',.slice none 0 0]:=Blk.later (by (repeat (first | assumption | exact Blk.newAt _ _ _ (by first | (simp;done) | (simp;omega)) | refine Blk.alloc ?_ _ | refine Blk.drew ?_ | refine Blk.drewN ?_ _ | refine Blk.far ?_ (by first | (simp;done) | (simp;omega)) _))) hb3
    have hb13:Below w1.heap.size w1 w3:=(by (repeat (first | with_reducible exact Below.refl _ _ | with_reducible assumption | (with_reducible refine below_alloc ?_ _) | (with_reducible refine Below.setCell ?_ (by first | omega | (simp;done) | (simp;omega)) _) | (with_reducible refine Below.drew ?_) | (with_reducible refine below_drewN ?_ _) | (refine below_then (by with_reducible assumption) ?_))):Below w1.heap.size w1 (w1.alloc (.cells #[.slice a1 l.length c1',.slice none 0 0] 84))).trans (hb3.mono (by simp))
    have HIN3:=hid (HIN1.out.row (hb13.mono hsz1))
    obtain⟨x0,x1,_,_,l3⟩:=f_blk B3
    clear hb3
    have hb14:Below w1.heap.size w1 (w3.alloc (.cells #[.slice a1 l.length c1',.slice none 0 0] 84)):=hb13.alloc (by have:=hb13.size;omega) _
    have k4:Tch (fun b=>b=g∨w1.heap.size≤b) w1 (w3.alloc (.cells #[.slice a1 l.length c1',.slice none 0 0] 84)):=(Tch.of_below hb14).mono (fun b hb e=> .inr e)
    have hsz3:=HIN3.out.tch.size
    obtain⟨⟨cells,OA⟩,hu4⟩:=HeadsAt.tch HO1.out k4 hlt
    have hlu:∀b,(Value.slice au J.length cu).ownBlock=some b→b<wr.heap.size:=fun b e=>(own_lt HO.out.szs b e).2
    have hlv:∀b,(Value.slice av J.length cv).ownBlock=some b→b<wr.heap.size:=by
     obtain⟨⟨cells0,OA0⟩,_⟩:=HO.out
     exact fun b e=>(own_lt OA0.1 b (by simpa using e)).2
    have hx:rEntryW.r (fun b=>(w.heap.size≤b∧b<(w3.alloc (.cells #[.slice a1 l.length c1',.slice none 0 0] 84)).heap.size∧(Value.slice au J.length cu).ownBlock≠some b)∧(Value.slice av J.length cv).ownBlock≠some b) (w3.alloc (.cells #[.slice a1 l.length c1',.slice none 0 0] 84)) [.slice a1 l.length c1',.slice none 0 0] (headE (l,n)):=by
     have h4s:=hb14.size
     refine entryW_mk (rLinksW.mono (rLinksW.keep HV1.out (w':=(w3.alloc (.cells #[.slice a1 l.length c1',.slice none 0 0] 84))) fun b hb=>hb14.block b hb.2) fun b hb=>⟨⟨?_,?_,fun e=> ?_⟩,fun e=> ?_⟩) (empty_bytes rfl rfl (by omega))
     ·have:=hb.1;omega
     ·have:=hb.2;omega
     ·have:=hlu b e;have:=hb.1;omega
     ·have:=hlv b e;have:=hb.1;omega
    have HX:=hid hx
    have HA:=hid OA
    have HU:=hid hu4
    have HS9:Hid (w.heap.size≤(w3.alloc (.cells #[.slice a1 l.length c1',.slice none 0 0] 84)).heap.size):=hid (by simp;omega)
    have HR4:=hid (HIN3.out.row (show Below w.heap.size w3 (w3.alloc (.cells #[.slice a1 l.length c1',.slice none 0 0] 84)) from (Below.refl _ _).alloc hsz3 _))
    have hJm:(J.map headE).length=J.length:=by simp
    have HOW:Hid ((w3.alloc (.cells #[.slice a1 l.length c1',.slice none 0 0] 84)).ownsRow w.heap.size 84 2 (.slice av J.length cv) J.length cells.flatten):=hid (by have:=OA.1;rwa [hJm] at this)
    clear hx OA hu4 hlu hlv k4 hb14 hJm HV1
    go_wp2_with (first | (at_builtin;go_loud (refine wpList_append_src rfl _ _ _ rfl w.heap.size 84 i0 (.agg #[.slice none 0 0,.slice none 0 0]) 2 48 Tryz.underlying58 hi hz0 hz1 hz2 rfl (by decide) (.slice av J.length cv) J.length _ rfl HOW.out (some ⟨w3.heap.size,0,none⟩) 1 1 [.slice a1 l.length c1',.slice none 0 0] rfl (src_new1 w3 84 _ rfl rfl rfl) (by intro u hu;simp at hu;rcases hu with rfl | rfl<;>rfl) (by simp only[maxLen];omega) (by omega) HS9.out ?_;intro v5 w5 hown5 hgrow5 hat5;obtain⟨a5,c5,rfl⟩:=own_form hown5;have HM5:=hid (HeadsMid.of (x:=(l,n)) HA.out HU.out rfl HX.out hown5 hgrow5 hat5);have HIN5:=hid (HR4.out.row (Below.grown (Below.refl _ _) hgrow5 HS9.out (fun g e=>(own_lt HOW.out g e).1)));have hsz5:=HIN5.out.tch.size;have HU6:=hid (HeadsMid.below HM5.out (show Below w5.heap.size w5 (w5.alloc (.cells #[.int .i64 (n:Int)] 3)) from (Below.refl _ _).alloc (Nat.le_refl _) _));have HIN6:=hid (HIN5.out.row (show Below w.heap.size w5 (w5.alloc (.cells #[.int .i64 (n:Int)] 3)) from (Below.refl _ _).alloc hsz5 _));have HS6:Hid (w.heap.size≤(w5.alloc (.cells #[.int .i64 (n:Int)] 3)).heap.size):=hid (by simp;omega);clear hown5 hgrow5 hat5 hsz5)) | (at_builtin;go_loud (refine wpList_append_src rfl _ _ _ rfl w.heap.size 3 j0 (.int .i64 0) 1 8 Tryz.underlying234 hj hy0 hy1 hy2 rfl (by decide) (.slice au J.length cu) J.length _ rfl HU6.out.szs (some ⟨w5.heap.size,0,none⟩) 1 1 [.int .i64 (n:Int)] rfl (src_new1 w5 3 _ rfl rfl rfl) (by intro u hu;simp at hu;subst hu;rfl) (by simp only[maxLen];omega) (by omega) HS6.out ?_;intro v7 w7 hown7 hgrow7 hat7;obtain⟨a7,c7,rfl⟩:=own_form hown7;have HO7:=hid (HeadsMid.to HU6.out hown7 hgrow7 hat7);have HIN7:=hid (HIN6.out.row (Below.grown (Below.refl _ _) hgrow7 HS6.out (fun g e=>(own_lt HU6.out.szs g e).1)));clear hown7 hgrow7 hat7)))
    go_roundw
    case rel=>exact ⟨k+1,J++[(l,n)],s2,left-(n:Int),by omega,by go_num,rfl,by omega,by omega,hid (by rw[List.length_append,hJl.out];rfl),HO7.out,HIN7,hid (by rw[HSP.out];simp[Int.add_assoc])⟩
    case measure=>simp [intOf];omega
   ·rw[if_neg hk2] at hstep
    have HSP:=hid (hsp.out.trans hstep)
    have HG:=hid (fun (W:World) (hW:RdAt W g B a s2)=>(by have:=rd_good W hW;rw[decide_eq_false hk2] at this;exact this:Calls Tryz.prog 151 #[.pointer (some ⟨g,0,none⟩)] W fun r w'=>r=.returned (.bool false)∧Below W.heap.size W w'))
    clear hsp hstep hk2
    go_wp2_with fail
    refine (HG.out _ (HIN1.out.row ((by (repeat (first | with_reducible exact Below.refl _ _ | with_reducible assumption | (with_reducible refine below_alloc ?_ _) | (with_reducible refine Below.setCell ?_ (by first | omega | (simp;done) | (simp;omega)) _) | (with_reducible refine Below.drew ?_) | (with_reducible refine below_drewN ?_ _) | (refine below_then (by with_reducible assumption) ?_))):Below w1.heap.size w1 _).mono hsz1)).rd).mono ?_
    rintro r w3 ⟨rfl,hb3⟩
    have hb13:Below w1.heap.size w1 w3:=(by (repeat (first | with_reducible exact Below.refl _ _ | with_reducible assumption | (with_reducible refine below_alloc ?_ _) | (with_reducible refine Below.setCell ?_ (by first | omega | (simp;done) | (simp;omega)) _) | (with_reducible refine Below.drew ?_) | (with_reducible refine below_drewN ?_ _) | (refine below_then (by with_reducible assumption) ?_))):Below w1.heap.size w1 (w1.alloc (.cells #[.slice a1 l.length c1',.slice none 0 0] 84))).trans (hb3.mono (by simp))
    have HE:=hid (HIN1.out.row (hb13.mono hsz1)).to
    clear hb3
    go_wp2
    rw[HSP.out]
    refine bodyPost_ret (v:=.tuple #[.slice none 0 0,.slice none 0 0]) (by simp[results,Tryz.results281,go_sem]) rfl ⟨_,_,rfl,HeadsAt.nil,HE.out⟩
  ·obtain rfl:k=N:=by omega
   have hE:=hsp.out
   rw[Nat.sub_self] at hE
   have HSP:Hid (Rs.heads B k s pos 1048576 []=(st,J)):=hid hE
   have HO:=hid hown
   have HE:=hid hin.out.to
   clear hE hown
   go_wp2
   rw[HSP.out]
   refine bodyPost_ret (v:=.tuple #[.slice av J.length cv,.slice au J.length cu]) (by simp[results,Tryz.results281,go_sem]) rfl ⟨_,_,rfl,HO.out,HE.out⟩
theorem wrap_u64_range(n:Int):0≤IntKind.u64.wrap n∧IntKind.u64.wrap n≤18446744073709551615:=by
 rw[IntKind.wrap_u64];omega
end Go.Proofs.YtmioakocnebceaaGreat
namespace Go.Bs
open Go.RowKit
structure Seal where
 epoch:Int
 node:Int
 tail:Int
 deriving DecidableEq
structure Stripe where
 lo:Int
 hi:Int
 sets:List (List Int)
 deriving DecidableEq
structure Projn where
 epoch:Int
 stripes:List Stripe
 deriving DecidableEq
structure Msg where
 kind:Int
 epoch:Int
 seq:Int
 pos:Int
 count:Int
 state:Int
 streams:List Int
 links:List Link
 data:List UInt8
 sea:Seal
 proj:Projn
 deriving DecidableEq
def rSets:Rp (List (List Int)):=rSl 1 rU64s
def rStripe:Rp Stripe:=rBy (fun s=>(s.lo,s.hi,s.sets)) (rPair (rInt .u64) (rPair (rInt .u64) rSets))
def rStripes:Rp (List Stripe):=rSl 3 rStripe
def inU(x:Int):Prop:=0≤x∧x≤18446744073709551615
def inI(x:Int):Prop:=-9223372036854775808≤x∧x≤9223372036854775807
section
variable {S:Nat→Prop} {w:World} {cs:List Value}
structure MsgIn(S:Nat→Prop)(w:World)(m:Msg)(a1:Option Addr)(c1:Nat)(a2:Option Addr)(c2:Nat)(a3:Option Addr)(c3:Nat)(a4:Option Addr)(c4:Nat):Prop where
 kind:inI m.kind
 epoch:inU m.epoch
 seq:inU m.seq
 pos:inU m.pos
 count:inI m.count
 state:inI m.state
 sealE:inU m.sea.epoch
 sealN:inU m.sea.node
 sealT:inU m.sea.tail
 projE:inU m.proj.epoch
 streams:rU64s.r S w [.slice a1 m.streams.length c1] m.streams
 links:rLinks.r S w [.slice a2 m.links.length c2] m.links
 data:rBytes.r S w [.slice a3 m.data.length c3] m.data
 stripes:rStripes.r S w [.slice a4 m.proj.stripes.length c4] m.proj.stripes
end
def partsK(k:Int):Nat:=if k<1∨14<k then 0 else [0,1,33,0,1,1,10,0,128,36,0,64,17,128,4].getD k.toNat 0
def hasK(k:Int)(p:Nat):Bool:=partsK k/p%2==1
def mostK(k:Int):Int:=if k=9 then 4 else 20
end Go.Bs
namespace Go.Proofs.YtmioakocnebceaaGreat
open Go.RowKit Go.Bs Go.Maps
def Rs.rise(B:List UInt8):Nat→Rs→List Int→Rs × List Int
  | 0,s,out=>(s,out)
  | n+1,s,out=>
    if (s.num B).1.k=0 then
      (if out≠[]∧18446744073709551615-out.getLastD 0≤((s.num B).2:Int) then ((s.num B).1.fail 13 s.p,[])
       else Rs.rise B n (s.num B).1 (out++[if out=[] then ((s.num B).2:Int) else ((s.num B).2:Int)+(out.getLastD 0+1)]))
    else ((s.num B).1,[])
def Rs.many(B:List UInt8)(s:Rs)(m:Int):Rs × Nat:=(if (s.int B m).2=0 then (s.int B m).1.fail 3 s.p else (s.int B m).1,(s.int B m).2)
theorem getD_at{α:Type}(l:List α)(i:Nat)(d:α)(h:i<l.length):l.getD i d=l[i]:=by
 rw[List.getD_eq_getElem?_getD,List.getElem?_eq_getElem h];rfl
theorem Rs.ep_okm{B:List UInt8}{s:Rs}(h:s.ok B.length):(s.ep B).1.ok B.length:=by
 have h2:=Rs.num_ok (B:=B) h
 unfold Rs.ep
 split
 ·split
  ·exact h2
  ·exact Rs.fail_ok h2 (by omega)
 ·exact h2
structure Sets19(w:World)(a:Option Addr)(n c:Nat)(g6 g8 L0:Nat)(lo y:Int)(st:Rs)(v:Value)(J:List (List Int))(W:World):Prop where
 d:Blk W g6 123 #[.slice a n c,.int .i64 (st.p:Int),.int .i64 st.k,.int .i64 st.f]
 s:Blk W g8 359 #[.int .u64 lo,.int .u64 y,v]
 r4:Blk W (w.heap.size+1) 123 #[.slice none 0 0,.int .i64 0,.int .i64 0,.int .i64 0]
 r5:Blk W (w.heap.size+1+1) 359 #[.int .u64 0,.int .u64 0,.slice none 0 0]
 own:OwnEls L0 rU64s L0 49 1 W v J
 bel:Below w.heap.size w W
 le:L0≤W.heap.size
theorem Sets19.later{w W W':World}{a:Option Addr}{n c g6 g8 L0:Nat}{lo y:Int}{st:Rs}{v:Value}{J:List (List Int)}(h:Sets19 w a n c g6 g8 L0 lo y st v J W)(hb:Below W.heap.size W W'):Sets19 w a n c g6 g8 L0 lo y st v J W':=
 ⟨h.d.later hb,h.s.later hb,h.r4.later hb,h.r5.later hb,OwnEls.below h.own hb,below_then hb h.bel,Nat.le_trans h.le hb.size⟩
structure Prj20(w:World)(a:Option Addr)(n c:Nat)(g6 g8 L0:Nat)(e:Int)(st:Rs)(v:Value)(J:List Stripe)(W:World):Prop where
 d:Blk W g6 123 #[.slice a n c,.int .i64 (st.p:Int),.int .i64 st.k,.int .i64 st.f]
 s:Blk W g8 55 #[.int .u64 e,v]
 r4:Blk W (w.heap.size+1) 123 #[.slice none 0 0,.int .i64 0,.int .i64 0,.int .i64 0]
 r5:Blk W (w.heap.size+1+1) 55 #[.int .u64 0,.slice none 0 0]
 own:OwnEls L0 rStripe L0 359 3 W v J
 bel:Below w.heap.size w W
 le:L0≤W.heap.size
theorem Prj20.later{w W W':World}{a:Option Addr}{n c g6 g8 L0:Nat}{e:Int}{st:Rs}{v:Value}{J:List Stripe}(h:Prj20 w a n c g6 g8 L0 e st v J W)(hb:Below W.heap.size W W'):Prj20 w a n c g6 g8 L0 e st v J W':=
 ⟨h.d.later hb,h.s.later hb,h.r4.later hb,h.r5.later hb,OwnEls.below h.own hb,below_then hb h.bel,Nat.le_trans h.le hb.size⟩
theorem headsB_len(l:List Entry)(p:Int)(hR:entriesR p l=true):(headsB p l).length≤1000*l.length:=by
 induction l generalizing p with
 | nil=>simp [headsB]
 | cons e l ih=>
  simp only[entriesR,Bool.and_eq_true] at hR
  have h1:=headN_le p e
  unfold headN at h1
  rw[if_pos hR.1] at h1
  have h2:=ih (p+1) hR.2
  simp only[headsB,List.length_append,List.length_cons]
  omega
theorem batchB_len{b:Batch}(hR:batchR b=true):(batchB b).length≤21+(headsB b.base b.entries).length+(blockB (joined b.entries)).length∧(batchB b).length≤40+(varB (total b.entries)).length+total b.entries+(headsB b.base b.entries).length∧(headsB b.base b.entries).length≤16000:=by
 have hR':=hR
 simp only[batchR,Bool.and_eq_true,fitsR,decide_eq_true_eq] at hR'
 have h1:=(varB_len b.epoch.toNat).1
 have h2:=(varB_len b.base.toNat).1
 have h3:=varB_len_small (x:=b.entries.length) (by omega)
 have h4:=blockB_len (joined b.entries)
 rw[joined_length] at h4
 have h5:=headsB_len b.entries b.base hR'.2.2.2
 simp only[batchB,aheadB,List.length_append]
 omega
theorem batch_put(w:World){g base most:Nat}{J:List UInt8}{a:Option Addr}{c:Nat}(h:PenAt w g base most J a c)(b:Batch)(al:Option Addr)(nl cl:Nat)(hN:batchN b)
  (hl:rEntries.r (fun q=>q<w.heap.size∧¬PenF g a q) w [.slice al nl cl] b.entries) (hR:batchR b=true) (ht:TameE b.entries) (hfit:J.length+(batchB b).length≤most) (hln2:J.length+(batchB b).length≤100000000000000):
  Calls Tryz.prog 333 #[.pointer (some ⟨g,0,none⟩),.agg #[.int .u64 b.epoch,.int .u64 b.base,.slice al nl cl]] w fun r w'=>r=.returned (.tuple #[])∧PenStep w g base most (J++batchB b) a w':=by
 obtain⟨rfl,hm,_,_⟩:=sl_len hl
 obtain⟨h0,h1,_⟩:=hN
 have HRT:=hid (fun (W:World) (hW:Below w.heap.size w W)=>batch_right b al _ cl W h0 h1 (lift (pen_low hl) hW) ht.fair)
 rw[hR] at HRT
 have hR':=hR
 simp only[batchR,Bool.and_eq_true,decide_eq_true_eq] at hR'
 obtain⟨hep,hfits,htot,hent⟩:=hR'
 have hfits':=hfits
 simp only[fitsR,decide_eq_true_eq] at hfits'
 have hbl:(batchB b).length=(varB b.epoch.toNat).length+(varB b.base.toNat).length+(varB b.entries.length).length+(headsB b.base b.entries).length+(blockB (joined b.entries)).length:=by simp only[batchB,aheadB,List.length_append]
 rw[hbl] at hfit hln2
 have hbb:batchB b=varB b.epoch.toNat++varB b.base.toNat++varB b.entries.length++headsB b.base b.entries++blockB (joined b.entries):=rfl
 rw[hbb]
 have HE:=hid (fun (W:World) (hW:Below w.heap.size w W)=>(by have:=epoch_put W (h.later hW) b.epoch.toNat (by rw[toNat_cast h0.1];exact hep) (by omega) (by omega);rw[toNat_cast h0.1] at this;exact this:Calls Tryz.prog 224 #[.pointer (some ⟨g,0,none⟩),.int .u64 b.epoch] W fun r w'=>r=.returned (.tuple #[])∧PenStep W g base most (J++varB b.epoch.toNat) a w'))
 have hpo:poR b.base=true:=by unfold poR;exact decide_eq_true (by omega)
 have HJL:=hid (joined_length b.entries)
 have HP:=hid h
 have HL:=hid hl
 have HBK:=hid ht.backs
 have HEA:=hid (fun (k:Nat) (hk:k<b.entries.length)=>entriesR_at b.entries b.base k hk hent)
 have HHS:=hid (fun (k:Nat) (hk:k<b.entries.length)=>headsB_step b.entries b.base k hk)
 have HHL:=hid (fun k=>headsB_le b.entries b.base k)
 have hto:=ht.tot
 obtain⟨ep,bs,l⟩:=b
 dsimp only at*
 clear h hl hR hbl hbb hep hent hfits ht
 go_enter Tryz.func333,Tryz.ntmps333
 go_wp2_with fail
 refine (HRT.out _ (by (repeat (first | with_reducible exact Below.refl _ _ | with_reducible assumption | (with_reducible refine below_alloc ?_ _) | (with_reducible refine Below.setCell ?_ (by first | omega | (simp;done) | (simp;omega)) _) | (with_reducible refine Below.drew ?_) | (with_reducible refine below_drewN ?_ _) | (refine below_then (by with_reducible assumption) ?_))))).mono ?_
 rintro r w1 ⟨rfl,hb1⟩
 have B1:=Blk.later (Blk.newAt w 60 #[.int .u64 ep,.int .u64 bs,.slice al l.length cl] rfl) hb1
 obtain⟨x0,x1,x2,_,_,_,l1⟩:=b_blk B1
 have hbw1:Below w.heap.size w w1:=by (repeat (first | with_reducible exact Below.refl _ _ | with_reducible assumption | (with_reducible refine below_alloc ?_ _) | (with_reducible refine Below.setCell ?_ (by first | omega | (simp;done) | (simp;omega)) _) | (with_reducible refine Below.drew ?_) | (with_reducible refine below_drewN ?_ _) | (refine below_then (by with_reducible assumption) ?_)))
 have HLT:=hid (fun q (hq:PenF g a q)=>(HP.out.own_lt hq).2)
 have HB1:=hid B1
 have HL1:=hid (pen_later hbw1 HL.out)
 have hs1:=hbw1.size
 clear B1 hb1
 go_wp2_with fail
 refine (HE.out _ hbw1).mono ?_
 rintro r w2 ⟨rfl,a2,c2,hp2,ht2,ha2⟩
 have B2:=HB1.out.tch ht2 (fun hf=>by have:=HLT.out _ hf;omega)
 obtain⟨y0,y1,y2,_,_,_,l2⟩:=b_blk B2
 have HV2:=hid ((by have:=epoch_putpos w2 hp2 bs.toNat (by rw[toNat_cast h1.1];exact hpo) (by simp only[List.length_append];omega) (by simp only[List.length_append];omega);rw[toNat_cast h1.1] at this;exact this:Calls Tryz.prog 225 #[.pointer (some ⟨g,0,none⟩),.int .u64 bs] w2 fun r w'=>r=.returned (.tuple #[])∧PenStep w2 g base most (J++varB ep.toNat++varB bs.toNat) a2 w'))
 have HT2:=hid (And.intro ht2 ha2)
 have HL2:=hid (pen_data ht2 ha2 HL1.out)
 have HB2:=hid B2
 have HNF2:=hid (fun (hf:PenF g a2 w.heap.size)=>penF_old ha2 HB1.out.lt (fun hf=>by have:=HLT.out _ hf;omega) hf)
 have hs2:=ht2.size
 clear B2 hp2 ht2 ha2 x0 x1 x2
 go_wp2_with fail
 refine HV2.out.mono ?_
 rintro r w3 ⟨rfl,a3,c3,hp3,ht3,ha3⟩
 have B3:=HB2.out.tch ht3 (fun hf=>HNF2.out hf)
 obtain⟨x0,x1,x2,_,_,_,l3⟩:=b_blk B3
 have HV3:=hid (varint_put w3 hp3 l.length (by omega) (by simp only[List.length_append];omega) (by simp only[List.length_append];omega))
 have HT3:=hid (And.intro ht3 ha3)
 have HL3:=hid (pen_data ht3 ha3 HL2.out)
 have HB3:=hid B3
 have HNF3:=hid (fun (hf:PenF g a3 w.heap.size)=>penF_old ha3 HB2.out.lt (fun hf=>HNF2.out hf) hf)
 have hs3:=ht3.size
 clear B3 hp3 ht3 ha3 y0 y1 y2
 go_wp2_with fail
 refine HV3.out.mono ?_
 rintro r w4 ⟨rfl,a4,c4,hp4,ht4,ha4⟩
 have B4:=HB3.out.tch ht4 (fun hf=>HNF3.out hf)
 obtain⟨y0,y1,y2,_,_,_,l4⟩:=b_blk B4
 have HT4:=hid (And.intro ht4 ha4)
 have HL4:=hid (pen_data ht4 ha4 HL3.out)
 have HB4:=hid B4
 have HNF4:=hid (fun (hf:PenF g a4 w.heap.size)=>penF_old ha4 HB3.out.lt (fun hf=>HNF3.out hf) hf)
 have HP4:=hid hp4
 have hs4:=ht4.size
 clear B4 hp4 ht4 ha4 x0 x1 x2
 go_wp2_with fail
 clear y0 y1 y2
 go_loopw [28] (fun i wr=>∃k:Nat,k≤l.length∧i=.int .i64 k∧Hid (PenStep w4 g base most (J++varB ep.toNat++varB bs.toNat++varB l.length++headsB bs (l.take k)) a4 wr)) (fun i _=>l.length-(intOf i).toNat)
 case atStart=>exact ⟨0,Nat.zero_le _,rfl,hid (by simpa [headsB] using PenStep.refl HP4.out)⟩
 case round=>
  obtain⟨k,hk,rfl,hp⟩:=hrel
  obtain⟨a5,c5,hp5,ht5,ha5⟩:=hp.out
  have B5:=HB4.out.tch ht5 (fun hf=>HNF4.out hf)
  obtain⟨x0,x1,x2,_,_,_,l5⟩:=b_blk B5
  have hd5:=pen_data ht5 ha5 HL4.out
  have hhl:=HHL.out (k+1)
  rcases Nat.lt_or_ge k l.length with hlt | hge
  ·obtain⟨bb,o,hA,hbb,a6,c6,a7,c7,z0,z1,hlk,hd⟩:=entry_at hd5 hlt
   subst hA
   have hbl:bb<wr.heap.size:=World.block_lt_of_cell? _ _ z0
   have hst:=HHS.out k hlt
   rw[hst,List.length_append] at hhl
   have i1:(k:Int)<(l.length:Int):=by omega
   have d1:decide ((k:Int)<(l.length:Int))=true:=decide_eq_true i1
   have hJ5:=hp5.len
   simp only[List.length_append] at hJ5
   have hPT:=fun (W:World) (hW:Below wr.heap.size wr W)=>entry_puthead W (hp5.later hW) (bs+k) (by omega) l[k] a6 a7 _ c6 _ c7 (pen_later hW hlk) (lift (pen_low hd) hW) (HEA.out k hlt) (HBK.out l[k] (List.getElem_mem hlt)) (by simp only[List.length_append];omega) (by simp only[List.length_append];omega)
   have HPT:=hid hPT
   have HT5:=hid (And.intro ht5 ha5)
   have HST:=hid hst
   generalize l[k]=y at*
   clear hPT hp5 ht5 ha5 hp hst hlk hd hd5 hhl hJ5 B5
   go_wp2_with fail
   have hbW:Below wr.heap.size wr (wr.alloc (.cells #[.slice a6 y.links.length c6,.slice a7 y.data.length c7] 84)):=by (repeat (first | with_reducible exact Below.refl _ _ | with_reducible assumption | (with_reducible refine below_alloc ?_ _) | (with_reducible refine Below.setCell ?_ (by first | omega | (simp;done) | (simp;omega)) _) | (with_reducible refine Below.drew ?_) | (with_reducible refine below_drewN ?_ _) | (refine below_then (by with_reducible assumption) ?_)))
   refine (HPT.out _ hbW).mono ?_
   rintro r w6 ⟨rfl,hst6⟩
   have hn:=PenStep.trans (J:=J) HT5.out.1 HT5.out.2 (PenStep.later hbW hst6)
   rw[List.append_assoc _ (headsB bs (l.take k)),←HST.out] at hn
   have HN:=hid hn
   clear hst6 hn x0 x1 x2
   go_wp2
   go_roundw
   case rel=>exact ⟨k+1,by omega,by go_num,HN⟩
   case measure=>simp [intOf];omega
  ·obtain rfl:k=l.length:=by omega
   have d1:decide ((l.length:Int)<(l.length:Int))=false:=decide_eq_false (by omega)
   rw[List.take_length] at hp5
   have HJN:=hid (fun (W:World) (hW:rEntries.r (·<W.heap.size) W [.slice al l.length cl] l)=>entry_join l al _ cl W hW (by omega))
   have HPW:=hid hp5
   have HD5:=hid hd5
   have HT5:=hid (And.intro ht5 ha5)
   clear hp ht5 ha5 hp5 hd5 B5
   go_wp2_with fail
   refine (HJN.out _ (pen_low HD5.out)).mono ?_
   rintro r w6 ⟨v6,rfl,hr6,hb6⟩
   obtain⟨a8,c8,hv6,hr6',_⟩:=sl_form hr6
   simp only[List.cons.injEq,and_true] at hv6
   subst hv6
   have HBP:=hid (block_put w6 (HPW.out.later hb6) (joined l) a8 _ c8 (pen_new_data HPW.out hr6') (by rw[HJL.out];omega) (by simp only[List.length_append];omega) (by simp only[List.length_append];omega))
   clear hr6 hr6' x0 x1 x2
   go_wp2_with fail
   refine HBP.out.mono ?_
   rintro r w7 ⟨rfl,hst7⟩
   have hn:=PenStep.later hbw1 (PenStep.trans (J:=J) HT2.out.1 HT2.out.2 (PenStep.trans (J:=J) HT3.out.1 HT3.out.2 (PenStep.trans (J:=J) HT4.out.1 HT4.out.2 (PenStep.trans (J:=J) HT5.out.1 HT5.out.2 (PenStep.later hb6 hst7)))))
   have HN:Hid (PenStep w g base most (J++(varB ep.toNat++varB bs.toNat++varB l.length++headsB bs l++blockB (joined l))) a w7):=hid (by simpa only[List.append_assoc] using hn)
   clear hst7 hn
   go_wp2
   first | go_end0 | refine bodyPost_ret (results_none rfl _ _ _) rfl ?_
   exact⟨rfl,HN.out⟩
theorem batch_put_bad(w:World){g base most:Nat}{J:List UInt8}{a:Option Addr}{c:Nat}(h:PenAt w g base most J a c)(b:Batch)(al:Option Addr)(nl cl:Nat)(hN:batchN b)
  (hl:rEntries.r (·<w.heap.size) w [.slice al nl cl] b.entries) (hR:batchR b=false) (ht:TameE b.entries):
  Calls Tryz.prog 333 #[.pointer (some ⟨g,0,none⟩),.agg #[.int .u64 b.epoch,.int .u64 b.base,.slice al nl cl]] w fun r w'=>r=.returned (.tuple #[])∧Blk w' g 280 #[.int .i64 most,.slice a J.length c,.int .i64 3]∧Tch (·=g) w w':=by
 obtain⟨rfl,hm,_,_⟩:=sl_len hl
 obtain⟨h0,h1,_⟩:=hN
 have HRT:=hid (fun (W:World) (hW:Below w.heap.size w W)=>batch_right b al _ cl W h0 h1 (lift hl hW) ht.fair)
 rw[hR] at HRT
 have HF:=hid (fun (W:World) (hW:Below w.heap.size w W)=>pen_fail W (h.later hW) 3)
 obtain⟨ep,bs,l⟩:=b
 dsimp only at*
 clear h hl hR ht
 go_enter Tryz.func333,Tryz.ntmps333
 go_wp2_with fail
 refine (HRT.out _ (by (repeat (first | with_reducible exact Below.refl _ _ | with_reducible assumption | (with_reducible refine below_alloc ?_ _) | (with_reducible refine Below.setCell ?_ (by first | omega | (simp;done) | (simp;omega)) _) | (with_reducible refine Below.drew ?_) | (with_reducible refine below_drewN ?_ _) | (refine below_then (by with_reducible assumption) ?_))))).mono ?_
 rintro r w1 ⟨rfl,hb1⟩
 have hbw1:Below w.heap.size w w1:=by (repeat (first | with_reducible exact Below.refl _ _ | with_reducible assumption | (with_reducible refine below_alloc ?_ _) | (with_reducible refine Below.setCell ?_ (by first | omega | (simp;done) | (simp;omega)) _) | (with_reducible refine Below.drew ?_) | (with_reducible refine below_drewN ?_ _) | (refine below_then (by with_reducible assumption) ?_)))
 go_wp2_with fail
 refine (HF.out _ hbw1).mono ?_
 rintro r w2 ⟨rfl,hB2,hT2⟩
 have HB2:=hid hB2
 have HT2:=hid hT2
 clear hB2 hT2
 go_wp2
 first | go_end0 | refine bodyPost_ret (results_none rfl _ _ _) rfl ?_
 exact⟨rfl,HB2.out,Tch.trans (F:=(·=g)) (Tch.of_later hbw1) HT2.out (fun _ _ h=>h)⟩
def batchBytes(b:Batch):List UInt8 × Int:=if batchR b=true then (batchB b,0) else ([],3)
theorem batch_bytes(w:World)(b:Batch)(al:Option Addr)(nl cl:Nat)(hN:batchN b)(hl:rEntries.r (·<w.heap.size) w [.slice al nl cl] b.entries)(ht:TameE b.entries):
  Calls Tryz.prog 242 #[.agg #[.int .u64 b.epoch,.int .u64 b.base,.slice al nl cl]] w fun r w'=>∃v,r=.returned (.tuple #[v,.int .i64 (batchBytes b).2])∧rBytes.r (fun q=>w.heap.size≤q∧q<w'.heap.size) w' [v] (batchBytes b).1∧Below w.heap.size w w':=by
 obtain⟨rfl,hm,_,_⟩:=sl_len hl
 have HRM:=hid (fun (W:World) (hW:Below w.heap.size w W)=>batch_room W b al _ cl hN.1 hN.2.1 (lift hl hW) ht)
 have HL:=hid hl
 unfold batchBytes
 cases hR:batchR b
 ·rw[if_neg (by simp)]
  have HPT:=hid (fun (W:World) {g base most:Nat} {a:Option Addr} {c:Nat} (h:PenAt W g base most [] a c) (hW:Below w.heap.size w W)=>batch_put_bad W h b al _ cl hN (lift HL.out hW) hR ht)
  obtain⟨ep,bs,l⟩:=b
  dsimp only at*
  clear hl hR ht hN
  go_enter Tryz.func242,Tryz.ntmps242
  go_wp2_with fail
  refine (HRM.out _ (by (repeat (first | with_reducible exact Below.refl _ _ | with_reducible assumption | (with_reducible refine below_alloc ?_ _) | (with_reducible refine Below.setCell ?_ (by first | omega | (simp;done) | (simp;omega)) _) | (with_reducible refine Below.drew ?_) | (with_reducible refine below_drewN ?_ _) | (refine below_then (by with_reducible assumption) ?_))))).mono ?_
  rintro r w1 ⟨M,rfl,hM,_,hb1⟩
  have B1:=Blk.later (Blk.newAt w 60 #[.int .u64 ep,.int .u64 bs,.slice al l.length cl] rfl) hb1
  have hbw1:Below w.heap.size w w1:=by (repeat (first | with_reducible exact Below.refl _ _ | with_reducible assumption | (with_reducible refine below_alloc ?_ _) | (with_reducible refine Below.setCell ?_ (by first | omega | (simp;done) | (simp;omega)) _) | (with_reducible refine Below.drew ?_) | (with_reducible refine below_drewN ?_ _) | (refine below_then (by with_reducible assumption) ?_)))
  have HN:=hid (pen_new w1 M (by omega))
  clear hb1
  go_wp2_with fail
  refine HN.out.mono ?_
  rintro r w2 ⟨rfl,hp2,hb2⟩
  have B2:=B1.later hb2
  obtain⟨x0,x1,x2,_,_,_,l2⟩:=b_blk B2
  have hbw2:=below_then hb2 hbw1
  have HP2:=hid (HPT.out w2 hp2 hbw2)
  have hs1:=hbw1.size
  clear hp2 B1 B2
  go_wp2_with fail
  refine HP2.out.mono ?_
  rintro r w3 ⟨rfl,hB3,hT3⟩
  have hbw3:Below w.heap.size w w3:=hbw2.trans (hT3.to_below hbw2.size (fun q _ e=>by omega))
  have HB:=hid (pen_bytes_bad w3 (k:=3) (by omega) hB3)
  clear hB3 hT3 x0 x1 x2
  go_wp2_with fail
  refine HB.out.mono ?_
  rintro r w4 ⟨rfl,rfl⟩
  go_wp2
  go_ret2
  exact⟨_,rfl,empty_bytes2 rfl rfl (by omega),hbw3⟩
 ·rw[if_pos rfl]
  have hbl:=batchB_len hR
  have HPT:=hid (fun (W:World) {g base most:Nat} {a:Option Addr} {c:Nat} (h:PenAt W g base most [] a c) (hW:rEntries.r (fun q=>q<W.heap.size∧¬PenF g a q) W [.slice al b.entries.length cl] b.entries) (hf:(batchB b).length≤most)=>batch_put W h b al _ cl hN hW hR ht (by simpa using hf) (by have:=ht.tot;have:=(varB_len (total b.entries)).1;simp;omega))
  have HRR:=hid hR
  generalize batchB b=K at*
  obtain⟨ep,bs,l⟩:=b
  dsimp only at*
  have HBL:=hid hbl
  clear hl hR ht hN hbl
  go_enter Tryz.func242,Tryz.ntmps242
  go_wp2_with fail
  refine (HRM.out _ (by (repeat (first | with_reducible exact Below.refl _ _ | with_reducible assumption | (with_reducible refine below_alloc ?_ _) | (with_reducible refine Below.setCell ?_ (by first | omega | (simp;done) | (simp;omega)) _) | (with_reducible refine Below.drew ?_) | (with_reducible refine below_drewN ?_ _) | (refine below_then (by with_reducible assumption) ?_))))).mono ?_
  rintro r w1 ⟨M,rfl,hM,hM2,hb1⟩
  have hfit:K.length≤M:=by have:=hM2 HRR.out;have:=HBL.out.2.1;omega
  have B1:=Blk.later (Blk.newAt w 60 #[.int .u64 ep,.int .u64 bs,.slice al l.length cl] rfl) hb1
  have hbw1:Below w.heap.size w w1:=by (repeat (first | with_reducible exact Below.refl _ _ | with_reducible assumption | (with_reducible refine below_alloc ?_ _) | (with_reducible refine Below.setCell ?_ (by first | omega | (simp;done) | (simp;omega)) _) | (with_reducible refine Below.drew ?_) | (with_reducible refine below_drewN ?_ _) | (refine below_then (by with_reducible assumption) ?_)))
  have HN:=hid (pen_new w1 M (by omega))
  clear hb1 hM2
  go_wp2_with fail
  refine HN.out.mono ?_
  rintro r w2 ⟨rfl,hp2,hb2⟩
  have B2:=B1.later hb2
  obtain⟨x0,x1,x2,_,_,_,l2⟩:=b_blk B2
  have hbw2:=below_then hb2 hbw1
  have hs1:=hbw1.size
  have HPA:=hid hp2
  have HP2:=hid (HPT.out w2 hp2 (rEntries.mono (rEntries.keep HL.out fun q hq=>hbw2.block q hq) fun q hq=>⟨by have:=hbw2.size;omega,fun hf=>by have:=(hp2.own_lt hf).1;omega⟩) hfit)
  clear hp2 B1 B2
  go_wp2_with fail
  refine HP2.out.mono ?_
  rintro r w3 ⟨rfl,hst⟩
  rw[List.nil_append] at hst
  have hbw3:Below w.heap.size w w3:=hbw2.trans (HPA.out.below hs1 hbw2.size hst)
  obtain⟨a3,c3,hp3,_,_⟩:=hst
  have HB:=hid (pen_bytes w3 hp3)
  have hs3:=hbw3.size
  clear hp3 x0 x1 x2
  go_wp2_with fail
  refine HB.out.mono ?_
  rintro r w4 ⟨v,rfl,hv,hb4⟩
  have hbe:=below_then hb4 hbw3
  have HV:=hid (rBytes.mono (S':=fun q=>w.heap.size≤q∧q<w4.heap.size) hv fun q hq=>⟨by have:=hq.1;omega,hq.2⟩)
  clear hv
  go_wp2
  go_ret2
  exact⟨_,rfl,HV.out,hbe⟩
theorem MsgIn.tr{S S':Nat→Prop}{w w':World}{m:Msg}{a1 c1 a2 c2 a3 c3 a4 c4}(f:∀{α:Type} (A:Rp α) (cs:List Value) (x:α),A.r S w cs x→A.r S' w' cs x)(h:MsgIn S w m a1 c1 a2 c2 a3 c3 a4 c4):MsgIn S' w' m a1 c1 a2 c2 a3 c3 a4 c4:=
 ⟨h.kind,h.epoch,h.seq,h.pos,h.count,h.state,h.sealE,h.sealN,h.sealT,h.projE,f _ _ _ h.streams,f _ _ _ h.links,f _ _ _ h.data,f _ _ _ h.stripes⟩
structure PutI(w:World)(g base most:Nat)(J:List UInt8)(a:Option Addr)(c A B:Nat)(m:Msg)(a1:Option Addr)(c1:Nat)(a2:Option Addr)(c2:Nat)(a3:Option Addr)(c3:Nat)(a4:Option Addr)(c4:Nat):Prop where
 pen:PenAt w g base most J a c
 pa:Blk w A 171 #[.pointer (some ⟨g,0,none⟩)]
 pb:Blk w B 57 #[.int .i64 m.kind,.int .u64 m.epoch,.int .u64 m.seq,.int .u64 m.pos,.int .i64 m.count,.int .i64 m.state,.slice a1 m.streams.length c1,.slice a2 m.links.length c2,.slice a3 m.data.length c3,.int .u64 m.sea.epoch,.int .u64 m.sea.node,.int .u64 m.sea.tail,.int .u64 m.proj.epoch,.slice a4 m.proj.stripes.length c4]
 na:¬PenF g a A
 nb:¬PenF g a B
 data:MsgIn (fun q=>q<w.heap.size∧¬PenF g a q) w m a1 c1 a2 c2 a3 c3 a4 c4
theorem PutI.later{w:World}{g base most:Nat}{J:List UInt8}{a:Option Addr}{c A B:Nat}{m:Msg}{a1:Option Addr}{c1:Nat}{a2:Option Addr}{c2:Nat}{a3:Option Addr}{c3:Nat}{a4:Option Addr}{c4:Nat}(h:PutI w g base most J a c A B m a1 c1 a2 c2 a3 c3 a4 c4){w':World}(hb:Below w.heap.size w w'):PutI w' g base most J a c A B m a1 c1 a2 c2 a3 c3 a4 c4:=
 ⟨h.pen.later hb,h.pa.later hb,h.pb.later hb,h.na,h.nb,MsgIn.tr (fun A cs x hx=>pen_later hb hx) h.data⟩
theorem PutI.step{w:World}{g base most:Nat}{J:List UInt8}{a:Option Addr}{c A B:Nat}{m:Msg}{a1:Option Addr}{c1:Nat}{a2:Option Addr}{c2:Nat}{a3:Option Addr}{c3:Nat}{a4:Option Addr}{c4:Nat}(h:PutI w g base most J a c A B m a1 c1 a2 c2 a3 c3 a4 c4){w':World}{J':List UInt8}(k:PenStep w g base most J' a w'):∃a' c',PutI w' g base most J' a' c' A B m a1 c1 a2 c2 a3 c3 a4 c4∧Tch (PenF g a) w w'∧(a'.map Addr.block=a.map Addr.block∨∃q,a'.map Addr.block=some q∧w.heap.size≤q):=by
 obtain⟨a',c',k1,k2,k3⟩:=k
 exact⟨a',c',⟨k1,h.pa.tch k2 h.na,h.pb.tch k2 h.nb,penF_old k3 h.pa.lt h.na,penF_old k3 h.pb.lt h.nb,MsgIn.tr (fun A cs x hx=>pen_data k2 k3 hx) h.data⟩,k2,k3⟩
theorem MsgIn.low{g:Nat}{a:Option Addr}{w:World}{m:Msg}{a1 c1 a2 c2 a3 c3 a4 c4}(h:MsgIn (fun q=>q<w.heap.size∧¬PenF g a q) w m a1 c1 a2 c2 a3 c3 a4 c4):MsgIn (·<w.heap.size) w m a1 c1 a2 c2 a3 c3 a4 c4:=MsgIn.tr (fun A cs x hx=>pen_low hx) h
open Go.RowKit Go.Bs
def longG{α:Type}(K:Nat)(p:α→Bool)(l:List α):Bool:=decide (K<l.length) || (l.take K).any p
def longGAt{α:Type}(K:Nat)(p:α→Bool)(l:List α)(k:Nat):Bool:=decide (K<l.length) || ((l.take K).drop k).any p
theorem longG_no{α:Type}{K:Nat}{p:α→Bool}{l:List α}(h:longG K p l=false):l.length≤K∧∀x∈l,p x=false:=by
 simp only[longG,Bool.or_eq_false_iff,decide_eq_false_iff_not,List.any_eq_false] at h
 obtain⟨h1,h2⟩:=h
 rw[List.take_of_length_le (by omega)] at h2
 exact⟨by omega,fun x hx=>by simpa using h2 x hx⟩
theorem longGAt_step{α:Type}(K:Nat)(p:α→Bool)(l:List α)(k:Nat)(h:k<l.length)(h2:k<K):longGAt K p l k=(p l[k] || longGAt K p l (k+1)):=by
 unfold longGAt
 have e:(l.take K)[k]'(by simp;omega)=l[k]:=by simp
 rw[List.drop_eq_getElem_cons (show k<(l.take K).length by simp;omega),List.any_cons,e]
 cases decide (K<l.length)<;>cases p l[k]<;>simp
theorem longGAt_end{α:Type}(K:Nat)(p:α→Bool)(l:List α)(k:Nat)(h:l.length≤k∨K≤k):longGAt K p l k=decide (K<l.length):=by
 unfold longGAt
 rw[List.drop_of_length_le (by simp;omega)]
 simp
def long23(l:List Link):Bool:=longG 50 (fun x=>decide (50<x.backs.length)) l
def long24(e:Entry):Bool:=long23 e.links || decide (500<e.data.length)
def many24(l:List Entry):Bool:=longG 30 long24 l
def long25(l:List Entry):Bool:=many24 l || decide (300<total (l.take 30))
def long34(l:List Batch):Bool:=longG 20 (fun b=>long25 b.entries) l
theorem law23_long(l:List Link)(a:Option Addr)(n c:Nat)(w:World)(hl:rLinks.r (·<w.heap.size) w [.slice a n c] l):
  Calls Tryz.prog 379 #[.slice a n c] w fun r w'=>r=.returned (.bool (long23 l))∧Below w.heap.size w w':=by
 obtain⟨rfl,hm,_,_⟩:=sl_len hl
 have HL:=hid hl;clear hl
 go_enter Tryz.func379,Tryz.ntmps379
 go_wp2_with fail
 go_loop [3] (fun i=>∃k:Nat,k≤l.length∧k≤50∧i=.int .i64 k∧Hid (long23 l=longGAt 50 (fun x=>decide (50<x.backs.length)) l k)) (fun i=>l.length-(intOf i).toNat)
 case atStart=>exact ⟨0,Nat.zero_le _,Nat.zero_le _,rfl,hid rfl⟩
 case round=>
  obtain⟨k,hk,hk2,rfl,hf⟩:=hrel
  by_cases hlt:k<l.length
  ·by_cases h450:k<50
   ·obtain⟨b,o,hA,hbb,a1,c1,X0,X1,_,_⟩:=link_at HL.out hlt
    subst hA
    have hst:=hid (longGAt_step 50 (fun x=>decide (50<x.backs.length)) l k hlt h450)
    generalize l[k]=x at*
    generalize x.stream=xs at*
    generalize x.backs.length=n1 at*
    by_cases h3:50<n1
    ·have hff:Hid (long23 l=true):=hid (by rw[hf.out,hst.out];simp[h3])
     have d3:decide ((50:Int)<(n1:Int))=true:=by simp;omega
     clear h3
     go_wp2
     go_ret
     exact⟨by rw[hff.out];rfl,by (repeat (first | exact Below.refl _ _ | assumption | (refine below_alloc ?_ _) | (refine Below.setCell ?_ (by first | omega | (simp;done) | (simp;omega)) _) | (refine Below.drew ?_) | (refine below_drewN ?_ _) | (refine below_then (by assumption) ?_)))⟩
    ·have hff:Hid (long23 l=longGAt 50 (fun x=>decide (50<x.backs.length)) l (k+1)):=hid (by rw[hf.out,hst.out];simp[h3])
     have d3:decide ((50:Int)<(n1:Int))=false:=by simp;omega
     clear h3
     go_wp2
     go_round
     case rel=>exact ⟨k+1,by omega,by omega,by go_num,hff⟩
     case measure=>simp [intOf];omega
   ·have hff:Hid (long23 l=decide ((50:Int)<(l.length:Int))):=hid (by rw[hf.out,longGAt_end _ _ l k (.inr (by omega))];simp only[decide_eq_decide];omega)
    go_wp2
    go_ret
    exact⟨by rw[hff.out];rfl,by (repeat (first | exact Below.refl _ _ | assumption | (refine below_alloc ?_ _) | (refine Below.setCell ?_ (by first | omega | (simp;done) | (simp;omega)) _) | (refine Below.drew ?_) | (refine below_drewN ?_ _) | (refine below_then (by assumption) ?_)))⟩
  ·have hff:Hid (long23 l=decide ((50:Int)<(l.length:Int))):=hid (by rw[hf.out,longGAt_end _ _ l k (.inl (by omega))];simp only[decide_eq_decide];omega)
   go_wp2
   go_ret
   exact⟨by rw[hff.out];rfl,by (repeat (first | exact Below.refl _ _ | assumption | (refine below_alloc ?_ _) | (refine Below.setCell ?_ (by first | omega | (simp;done) | (simp;omega)) _) | (refine Below.drew ?_) | (refine below_drewN ?_ _) | (refine below_then (by assumption) ?_)))⟩
theorem law24_long(x:Entry)(a a':Option Addr)(n c n' c':Nat)(w:World)(hl:rLinks.r (·<w.heap.size) w [.slice a n c] x.links)(hd:rBytes.r (·<w.heap.size) w [.slice a' n' c'] x.data):
  Calls Tryz.prog 331 #[.agg #[.slice a n c,.slice a' n' c']] w fun r w'=>r=.returned (.bool (long24 x))∧Below w.heap.size w w':=by
 obtain⟨rfl,hm,_,_⟩:=sl_len hl
 obtain⟨rfl,hm',_,_⟩:=sl_len hd
 have HL:=hid hl;clear hl hd
 have HLL:=hid (show long24 x=(long23 x.links || decide (500<x.data.length)) from rfl)
 go_enter Tryz.func331,Tryz.ntmps331
 go_wp2_with fail
 refine (law23_long x.links _ _ _ _ (lift HL.out (by (repeat (first | exact Below.refl _ _ | assumption | (refine below_alloc ?_ _) | (refine Below.setCell ?_ (by first | omega | (simp;done) | (simp;omega)) _) | (refine Below.drew ?_) | (refine below_drewN ?_ _) | (refine below_then (by assumption) ?_)))))).mono ?_
 rintro r w1 ⟨rfl,hb1⟩
 cases h:long23 x.links
 ·have hff:Hid (long24 x=decide ((500:Int)<(x.data.length:Int))):=hid (by rw[HLL.out,h,Bool.false_or];simp only[decide_eq_decide];omega)
  clear h
  have c1:w1.cell? ⟨w.heap.size,1,none⟩=some (.slice a' x.data.length c'):=(Later.mk w1 hb1).cell (by go_simp)
  go_wp2
  go_ret
  exact⟨by rw[hff.out];rfl,by (repeat (first | exact Below.refl _ _ | assumption | (refine below_alloc ?_ _) | (refine Below.setCell ?_ (by first | omega | (simp;done) | (simp;omega)) _) | (refine Below.drew ?_) | (refine below_drewN ?_ _) | (refine below_then (by assumption) ?_)))⟩
 ·have hff:Hid (long24 x=true):=hid (by rw[HLL.out,h];rfl)
  clear h
  go_wp2
  go_ret
  exact⟨by rw[hff.out];rfl,by (repeat (first | exact Below.refl _ _ | assumption | (refine below_alloc ?_ _) | (refine Below.setCell ?_ (by first | omega | (simp;done) | (simp;omega)) _) | (refine Below.drew ?_) | (refine below_drewN ?_ _) | (refine below_then (by assumption) ?_)))⟩
theorem law24_many(l:List Entry)(a:Option Addr)(n c:Nat)(w:World)(hl:rEntries.r (·<w.heap.size) w [.slice a n c] l):
  Calls Tryz.prog 240 #[.slice a n c] w fun r w'=>r=.returned (.bool (many24 l))∧Below w.heap.size w w':=by
 obtain⟨rfl,hm,_,_⟩:=sl_len hl
 have HL:=hid hl;clear hl
 go_enter Tryz.func240,Tryz.ntmps240
 go_wp2_with fail
 go_loopw [3] (fun i wr=>∃k:Nat,k≤l.length∧k≤30∧i=.int .i64 k∧Hid (many24 l=longGAt 30 long24 l k)∧Below w.heap.size w wr) (fun i _=>l.length-(intOf i).toNat)
 case atStart=>exact ⟨0,Nat.zero_le _,Nat.zero_le _,rfl,hid rfl,Below.refl _ _⟩
 case round=>
  obtain⟨k,hk,hk2,rfl,hf,hb⟩:=hrel
  by_cases hlt:k<l.length
  ·by_cases h450:k<30
   ·obtain⟨b,o,hA,hbb,a1,c1,a2,c2,X0,X1,hd1,hd2⟩:=entry_at (lift HL.out hb) hlt
    subst hA
    have hst:=hid (longGAt_step 30 long24 l k hlt h450)
    have HD1:=hid hd1;have HD2:=hid hd2;clear hd1 hd2
    generalize l[k]=x at*
    go_wp2_with fail
    refine (law24_long x _ _ _ _ _ _ _ HD1.out HD2.out).mono ?_
    rintro r w1 ⟨rfl,hb1⟩
    have hb2:=below_then hb1 hb
    cases h3:long24 x
    ·have hff:Hid (many24 l=longGAt 30 long24 l (k+1)):=hid (by rw[hf.out,hst.out,h3];rfl)
     clear h3
     go_wp2
     go_roundw
     case rel=>exact ⟨k+1,by omega,by omega,by go_num,hff,hb2⟩
     case measure=>simp [intOf];omega
    ·have hff:Hid (many24 l=true):=hid (by rw[hf.out,hst.out,h3];rfl)
     clear h3
     go_wp2
     go_ret
     exact⟨by rw[hff.out];rfl,hb2⟩
   ·have hff:Hid (many24 l=decide ((30:Int)<(l.length:Int))):=hid (by rw[hf.out,longGAt_end _ _ l k (.inr (by omega))];simp only[decide_eq_decide];omega)
    go_wp2
    go_ret
    exact⟨by rw[hff.out];rfl,hb⟩
  ·have hff:Hid (many24 l=decide ((30:Int)<(l.length:Int))):=hid (by rw[hf.out,longGAt_end _ _ l k (.inl (by omega))];simp only[decide_eq_decide];omega)
   go_wp2
   go_ret
   exact⟨by rw[hff.out];rfl,hb⟩
theorem many24_no{l:List Entry}(h:many24 l=false):l.length≤30∧∀x∈l,x.data.length≤500∧x.links.length≤50∧∀y∈x.links,y.backs.length≤50:=by
 obtain⟨h1,h2⟩:=longG_no h
 refine⟨h1,fun x hx=> ?_⟩
 have:=h2 x hx
 simp only[long24,Bool.or_eq_false_iff,decide_eq_false_iff_not] at this
 obtain⟨h3,h4⟩:=longG_no this.1
 exact⟨by omega,h3,fun y hy=>by have:=h4 y hy;simpa using this⟩
theorem total_bound{l:List Entry}{k:Nat}(h:∀x∈l,x.data.length≤k):total l≤k*l.length:=by
 induction l with
 | nil=>exact Nat.zero_le _
 | cons x l ih=>
  have h1:=ih fun y hy=>h y (List.mem_cons_of_mem _ hy)
  have h2:=h x (List.mem_cons_self ..)
  simp only[total,List.map_cons,List.sum_cons,List.length_cons] at*
  rw[Nat.mul_succ];omega
theorem law25_long(e b:Int)(l:List Entry)(a:Option Addr)(n c:Nat)(w:World)(hl:rEntries.r (·<w.heap.size) w [.slice a n c] l):
  Calls Tryz.prog 126 #[.agg #[.int .u64 e,.int .u64 b,.slice a n c]] w fun r w'=>r=.returned (.bool (long25 l))∧Below w.heap.size w w':=by
 obtain⟨rfl,hm,_,_⟩:=sl_len hl
 have HL:=hid hl;clear hl
 have HLL:=hid (show long25 l=(many24 l || decide (300<total (l.take 30))) from rfl)
 cases hmn:many24 l
 ·obtain⟨g1,g2⟩:=many24_no hmn
  have ht:=total_bound (k:=500) (fun x hx=>(g2 x hx).1)
  have hff:Hid (long25 l=decide ((300:Int)<((total l:Nat):Int))):=hid (by rw[HLL.out,hmn,Bool.false_or,List.take_of_length_le g1];simp only[decide_eq_decide];omega)
  have hM:=fun W h=>law24_many l a l.length c W h
  rw[hmn] at hM
  have HM:=hid hM;clear hM hmn g2
  have HT:=hid ht;clear ht
  go_enter Tryz.func126,Tryz.ntmps126
  go_wp2_with fail
  refine wp_world (fun W=>Below w.heap.size w W∧w.heap.size<W.heap.size∧W.cell? ⟨w.heap.size,2,none⟩=some (.slice a l.length c)) ⟨by (repeat (first | exact Below.refl _ _ | assumption | (refine below_alloc ?_ _) | (refine Below.setCell ?_ (by first | omega | (simp;done) | (simp;omega)) _) | (refine Below.drew ?_) | (refine below_drewN ?_ _) | (refine below_then (by assumption) ?_))),by simp,by go_simp⟩ ?_
  intro W ⟨hbW,hzW,q2⟩
  go_loop [3,4] (fun s i=>∃k:Nat,k≤l.length∧i=.int .i64 k∧s=.int .i64 (total (l.take k):Nat)) (fun _ i=>l.length-(intOf i).toNat)
  case atStart=>exact ⟨0,Nat.zero_le _,rfl,rfl⟩
  case round=>
   obtain⟨k,hk,rfl,rfl⟩:=hrel
   by_cases hlt:k<l.length
   ·obtain⟨bb,o,hA,hbb,a1,c1,a2,c2,X0,X1,_,_⟩:=entry_at (lift HL.out hbW) hlt
    subst hA
    have hs:=hid (total_step l k hlt)
    have h1:=total_take_le l (k+1)
    rw[hs.out] at h1
    have h2:=HT.out
    have d3:decide ((k:Int)<30)=true:=by simp;omega
    generalize l[k].links.length=n1 at*
    generalize l[k].data.length=n2 at*
    generalize total (l.take k)=t at*
    generalize total l=tt at*
    have h3:t+n2≤15000:=by omega
    clear h1 h2
    go_wp2
    go_round
    case rel=>exact ⟨k+1,by omega,by go_num,by rw[hs.out];simp only[Int.natCast_add]⟩
    case measure=>simp [intOf];omega
   ·obtain rfl:k=l.length:=by omega
    rw[List.take_length]
    go_wp2_with fail
    refine (HM.out _ (lift HL.out hbW)).mono ?_
    rintro r w1 ⟨rfl,hb1⟩
    go_wp2
    go_ret
    exact⟨by rw[hff.out];rfl,below_then hb1 hbW⟩
 ·have hff:Hid (long25 l=true):=hid (by rw[HLL.out,hmn];rfl)
  have hM:=fun W h=>law24_many l a l.length c W h
  rw[hmn] at hM
  have HM:=hid hM;clear hM hmn
  go_enter Tryz.func126,Tryz.ntmps126
  go_wp2_with fail
  refine wp_world (fun W=>Below w.heap.size w W∧w.heap.size<W.heap.size∧W.cell? ⟨w.heap.size,2,none⟩=some (.slice a l.length c)) ⟨by (repeat (first | exact Below.refl _ _ | assumption | (refine below_alloc ?_ _) | (refine Below.setCell ?_ (by first | omega | (simp;done) | (simp;omega)) _) | (refine Below.drew ?_) | (refine below_drewN ?_ _) | (refine below_then (by assumption) ?_))),by simp,by go_simp⟩ ?_
  intro W ⟨hbW,hzW,q2⟩
  go_loop [3,4] (fun s i=>∃(k:Nat) (m:Int),k≤l.length∧k≤30∧i=.int .i64 k∧s=.int .i64 m) (fun _ i=>l.length-(intOf i).toNat)
  case atStart=>exact ⟨0,0,Nat.zero_le _,Nat.zero_le _,rfl,rfl⟩
  case round=>
   obtain⟨k,m,hk,hk2,rfl,rfl⟩:=hrel
   by_cases hlt:k<l.length
   ·by_cases h30:k<30
    ·obtain⟨bb,o,hA,hbb,a1,c1,a2,c2,X0,X1,_,_⟩:=entry_at (lift HL.out hbW) hlt
     subst hA
     generalize l[k].links.length=n1 at*
     generalize l[k].data.length=n2 at*
     go_wp2
     go_round
     case rel=>exact ⟨k+1,_,by omega,by omega,by go_num,rfl⟩
     case measure=>simp [intOf];omega
    ·go_wp2_with fail
     refine (HM.out _ (lift HL.out hbW)).mono ?_
     rintro r w1 ⟨rfl,hb1⟩
     go_wp2
     go_ret
     exact⟨by rw[hff.out];rfl,below_then hb1 hbW⟩
   ·go_wp2_with fail
    refine (HM.out _ (lift HL.out hbW)).mono ?_
    rintro r w1 ⟨rfl,hb1⟩
    go_wp2
    go_ret
    exact⟨by rw[hff.out];rfl,below_then hb1 hbW⟩
theorem long25_no{l:List Entry}(h:long25 l=false):l.length≤30∧total l≤300∧∀x∈l,x.data.length≤500∧x.links.length≤50∧∀y∈x.links,y.backs.length≤50:=by
 simp only[long25,Bool.or_eq_false_iff,decide_eq_false_iff_not] at h
 obtain⟨h1,h2⟩:=many24_no h.1
 rw[List.take_of_length_le h1] at h
 exact⟨h1,by omega,h2⟩
theorem law34_long(e:Int)(l:List Batch)(a:Option Addr)(n c:Nat)(w:World)(hl:rBatches.r (·<w.heap.size) w [.slice a n c] l):
  Calls Tryz.prog 51 #[.agg #[.int .u64 e,.slice a n c]] w fun r w'=>r=.returned (.bool (long34 l))∧Below w.heap.size w w':=by
 obtain⟨rfl,hm,_,_⟩:=sl_len hl
 have HL:=hid hl;clear hl
 go_enter Tryz.func51,Tryz.ntmps51
 go_wp2_with fail
 refine wp_world (fun W=>Below w.heap.size w W∧w.heap.size<W.heap.size∧W.cell? ⟨w.heap.size,1,none⟩=some (.slice a l.length c)) ⟨by (repeat (first | exact Below.refl _ _ | assumption | (refine below_alloc ?_ _) | (refine Below.setCell ?_ (by first | omega | (simp;done) | (simp;omega)) _) | (refine Below.drew ?_) | (refine below_drewN ?_ _) | (refine below_then (by assumption) ?_))),by simp,by go_simp⟩ ?_
 intro W ⟨hbW,hzW,q2⟩
 go_loopw [3] (fun i wr=>∃k:Nat,k≤l.length∧k≤20∧i=.int .i64 k∧Hid (long34 l=longGAt 20 (fun b=>long25 b.entries) l k)∧Below W.heap.size W wr) (fun i _=>l.length-(intOf i).toNat)
 case atStart=>exact ⟨0,Nat.zero_le _,Nat.zero_le _,rfl,hid rfl,Below.refl _ _⟩
 case round=>
  obtain⟨k,hk,hk2,rfl,hf,hb⟩:=hrel
  have hb3:=below_then hb hbW
  have t1:wr.cell? ⟨w.heap.size,1,none⟩=some (.slice a l.length c):=(Later.mk wr hb).cell q2
  have hz3:w.heap.size<wr.heap.size:=by have:=hb.size;omega
  by_cases hlt:k<l.length
  ·by_cases h450:k<20
   ·obtain⟨b,o,hA,hbb,a1,c1,X0,X1,X2,_,_,hd⟩:=batch_at (lift HL.out hb3) hlt
    subst hA
    have hst:=hid (longGAt_step 20 (fun b=>long25 b.entries) l k hlt h450)
    have HD:=hid hd;clear hd
    generalize l[k]=x at*
    go_wp2_with fail
    refine (law25_long _ _ x.entries _ _ _ _ HD.out).mono ?_
    rintro r w1 ⟨rfl,hb1⟩
    have hb2:=below_then hb1 hb
    cases h3:long25 x.entries
    ·have hff:Hid (long34 l=longGAt 20 (fun b=>long25 b.entries) l (k+1)):=hid (by rw[hf.out,hst.out];simp[h3])
     clear h3
     go_wp2
     go_roundw
     case rel=>exact ⟨k+1,by omega,by omega,by go_num,hff,hb2⟩
     case measure=>simp [intOf];omega
    ·have hff:Hid (long34 l=true):=hid (by rw[hf.out,hst.out];simp[h3])
     clear h3
     go_wp2
     go_ret
     exact⟨by rw[hff.out];rfl,below_then hb1 hb3⟩
   ·have hff:Hid (long34 l=decide ((20:Int)<(l.length:Int))):=hid (by rw[hf.out,longGAt_end _ _ l k (.inr (by omega))];simp only[decide_eq_decide];omega)
    go_wp2
    go_ret
    exact⟨by rw[hff.out];rfl,hb3⟩
  ·have hff:Hid (long34 l=decide ((20:Int)<(l.length:Int))):=hid (by rw[hf.out,longGAt_end _ _ l k (.inl (by omega))];simp only[decide_eq_decide];omega)
   go_wp2
   go_ret
   exact⟨by rw[hff.out];rfl,hb3⟩
theorem long34_no{l:List Batch}(h:long34 l=false):l.length≤20∧∀b∈l,b.entries.length≤30∧total b.entries≤300∧∀x∈b.entries,x.data.length≤500∧x.links.length≤50∧∀y∈x.links,y.backs.length≤50:=by
 obtain⟨h1,h2⟩:=longG_no h
 exact⟨h1,fun b hb=>long25_no (h2 b hb)⟩
def noMsg:Msg:=⟨0,0,0,0,0,0,[],[],[],⟨0,0,0⟩,⟨0,[]⟩⟩
theorem Rs.ep_putm{B rest:List UInt8}{p:Nat}{e:Int}(h1:epR e=true)(h:B.drop p=varB e.toNat++rest):(⟨p,0,0⟩:Rs).ep B=(⟨p+(varB e.toNat).length,0,0⟩,e.toNat):=by
 have h2:=h1
 simp only[epR,decide_eq_true_eq] at h2
 unfold Rs.ep
 rw[Rs.num_varB (by omega) h]
 dsimp only
 rw[if_pos rfl,toNat_cast (by omega),if_pos h1]
def Rs.part{α:Type}(h:Bool)(s:Rs)(f:Rs→Rs × α)(z:α):Rs × α:=if h=true then f s else (s,z)
def Rs.pos_(B:List UInt8)(s:Rs):Rs × Int:=((s.po B).1,((s.po B).2:Int))
def Rs.cnt(B:List UInt8)(s:Rs):Rs × Int:=((s.many B 65536).1,((s.many B 65536).2:Int))
def Rs.stt(B:List UInt8)(k:Int)(s:Rs):Rs × Int:=
 let x:Int:=((s.byte B).2.toNat:Int)
 (if 1≤x∧x≤mostK k then (s.byte B).1 else (s.byte B).1.fail 3 s.p,x)
def Rs.strm(B:List UInt8)(s:Rs):Rs × List Int:=Rs.rise B (s.int B 16).2 (s.int B 16).1 []
structure Ahead where
 pos:Int
 count:Int
 state:Int
 streams:List Int
 links:List Link
def Rs.ahead(B:List UInt8)(k:Int)(s:Rs):Rs × Ahead:=
 let a:=Rs.part (hasK k 1) s (Rs.pos_ B) 0
 let b:=Rs.part (hasK k 2) a.1 (Rs.cnt B) 0
 let c:=Rs.part (hasK k 4) b.1 (Rs.stt B k) 0
 let d:=Rs.part (hasK k 8) c.1 (Rs.strm B) []
 let e:=Rs.part (hasK k 16) d.1 (fun t=>t.links B a.2) []
 (e.1,⟨a.2,b.2,c.2,d.2,e.2⟩)
section
variable {α:Type} {B:List UInt8} {s:Rs}
end
theorem Rs.byte_canon{B:List UInt8}{s:Rs}(hs:s.ok B.length)(h:(s.byte B).1.k=0):B.drop s.p=[(s.byte B).2]++B.drop (s.byte B).1.p∧s.k=0:=by
 by_cases hk:s.k=0
 ·refine⟨?_,hk⟩
  by_cases hl:(B.length:Int)-s.p<1
  ·have:(s.byte B).1.k=1:=by
    unfold Rs.byte Rs.skip
    rw[if_pos hk,if_neg (by omega),if_pos hl]
   omega
  ·have hle:=hs.le
   have e:s.byte B=(⟨s.p+1,0,0⟩,B.getD s.p 0):=by
    unfold Rs.byte Rs.skip
    rw[if_pos hk,if_neg (by omega),if_neg hl]
    rfl
   rw[e]
   dsimp only
   rw[getD_at B s.p 0 (by omega),List.drop_eq_getElem_cons (show s.p<B.length by omega)]
   rfl
 ·rw[Rs.byte_of_bad hk] at h
  exact absurd h hk
structure UnblockB(w:World)(g:Nat)(B:List UInt8)(a:Option Addr)(fn:Nat)(caps:Array Value)(blk:Rs→Rs × List UInt8 × Bool)(K:Nat→Prop)(X:World→Bool→Prop):Prop where
 lt:∀b,K b→b<w.heap.size
 own:K g
 st:∀W W' q,X W q→w.heap.size≤W.heap.size→Tch (fun b=>b=g∨w.heap.size≤b) W W'→X W' q
 call:∀W t q0,RdAt W g B a t→X W q0→w.heap.size≤W.heap.size→Tch K w W→Calls Tryz.prog fn caps W fun r W'=>∃v,r=.returned v∧rBytes.r (Fresh W W') W' [v] (blk t).2.1∧RdAt W' g B a (blk t).1∧Tch K W W'∧X W' (blk t).2.2
 size:∀t,(blk t).2.1.length≤1048576
 dat:rBytes.r (fun q=>q<w.heap.size∧¬K q) w [.slice a B.length B.length] B
 bad:∀t:Rs,t.k≠0→(blk t).1=t∧(blk t).2.1=[]
 ent:∀(xs:Array Value) (W:World),(callFunc fn xs).run Tryz.prog W=.ok (.enter fn xs) W
abbrev bodCells(m:Msg)(v1 v2 v3 v4:Value):Array Value:=#[.int .i64 m.kind,.int .u64 m.epoch,.int .u64 m.seq,.int .u64 m.pos,.int .i64 m.count,.int .i64 m.state,v1,v2,v3,.int .u64 m.sea.epoch,.int .u64 m.sea.node,.int .u64 m.sea.tail,.int .u64 m.proj.epoch,v4]
abbrev zeroCells:Array Value:=#[.int .i64 0,.int .u64 0,.int .u64 0,.int .u64 0,.int .i64 0,.int .i64 0,.slice none 0 0,.slice none 0 0,.slice none 0 0,.int .u64 0,.int .u64 0,.int .u64 0,.int .u64 0,.slice none 0 0]
structure BodI(w:World)(g:Nat)(B:List UInt8)(a:Option Addr)(K:Nat→Prop)(X:World→Bool→Prop)(q:Bool)(M lo:Nat)(k:Int)(m:Msg)(v1 v2 v3 v4:Value)(s:Rs)(W:World):Prop where
 rd:RdAt W g B a s
 dat:rBytes.r (fun b=>b<w.heap.size∧¬K b) W [.slice a B.length B.length] B
 pa:Blk W w.heap.size 127 #[.pointer (some ⟨g,0,none⟩)]
 pk:Blk W (w.heap.size+1) 3 #[.int .i64 k]
 pr:Blk W (w.heap.size+1+1) 57 zeroCells
 pm:Blk W M 57 (bodCells m v1 v2 v3 v4)
 lm:w.heap.size+1+1<M∧M<lo
 low:lo≤W.heap.size
 st:rU64s.r (fun b=>lo≤b∧b<W.heap.size) W [v1] m.streams
 ln:rLinks.r (fun b=>lo≤b∧b<W.heap.size) W [v2] m.links
 da:rBytes.r (fun b=>lo≤b∧b<W.heap.size) W [v3] m.data
 sp:rStripes.r (fun b=>lo≤b∧b<W.heap.size) W [v4] m.proj.stripes
 tch:Tch K w W
 x:X W q
section
variable {w:World} {g:Nat} {B:List UInt8} {a:Option Addr} {K:Nat→Prop} {X:World→Bool→Prop} {q:Bool} {M lo:Nat} {k:Int} {m:Msg} {v1 v2 v3 v4:Value} {s:Rs} {W:World} {fn:Nat} {caps:Array Value} {blk:Rs→Rs × List UInt8 × Bool}
theorem BodI.stepK{q':Bool}{s':Rs}{W':World}(hU:UnblockB w g B a fn caps blk K X)(h:BodI w g B a K X q M lo k m v1 v2 v3 v4 s W)(kt:Tch K W W')(kr:RdAt W' g B a s')(kx:X W' q'):BodI w g B a K X q' M lo k m v1 v2 v3 v4 s' W':=by
 have hw:=h.tch.size
 have hlm:=h.lm
 have hK:∀b,w.heap.size≤b→¬K b:=fun b hb e=>absurd (hU.lt b e) (by omega)
 have hk:∀b,lo≤b∧b<W.heap.size→W'.heap[b]? =W.heap[b]? :=fun b hb=>kt.block b hb.2 (hK b (by omega))
 have hm:∀b,lo≤b∧b<W.heap.size→lo≤b∧b<W'.heap.size:=fun b hb=>⟨hb.1,Nat.lt_of_lt_of_le hb.2 kt.size⟩
 exact⟨kr,rBytes.keep h.dat fun b hb=>kt.block b (Nat.lt_of_lt_of_le hb.1 hw) hb.2,h.pa.tch kt (hK _ (Nat.le_refl _)),h.pk.tch kt (hK _ (by omega)),h.pr.tch kt (hK _ (by omega)),h.pm.tch kt (hK _ (by omega)),hlm,Nat.le_trans h.low kt.size,
  rU64s.mono (rU64s.keep h.st hk) hm,rLinks.mono (rLinks.keep h.ln hk) hm,rBytes.mono (rBytes.keep h.da hk) hm,rStripes.mono (rStripes.keep h.sp hk) hm,h.tch.trans kt fun b _ e=>e,kx⟩
theorem BodI.step{s':Rs}{W':World}(hU:UnblockB w g B a fn caps blk K X)(h:BodI w g B a K X q M lo k m v1 v2 v3 v4 s W)(kk:RdStep W g B a s' W'):BodI w g B a K X q M lo k m v1 v2 v3 v4 s' W':=
 h.stepK hU (kk.2.mono fun b _ e=>e ▸ hU.own) kk.1 (hU.st W W' q h.x h.tch.size (kk.2.mono fun b _ e=> .inl e))
theorem BodI.later{W':World}(hU:UnblockB w g B a fn caps blk K X)(h:BodI w g B a K X q M lo k m v1 v2 v3 v4 s W)(hb:Below W.heap.size W W'):BodI w g B a K X q M lo k m v1 v2 v3 v4 s W':=h.step hU (RdStep.later h.rd hb)
end
def rI64s:Rp (List Int):=rSl 1 (rInt .i64)
theorem i64_at{S:Nat→Prop}{w:World}{xs:List Int}{a:Option Addr}{n c:Nat}(h:rI64s.r S w [.slice a n c] xs){i:Nat}(hi:i<xs.length):∃b off,a=some ⟨b,off,none⟩∧S b∧w.cell? ⟨b,off+i,none⟩=some (.int .i64 xs[i]):=by
 obtain⟨b,off,e,hS,cs,_,hc,rfl,hw⟩:=sl_at h hi
 have:=hc 0 _ rfl
 rw[Nat.mul_one,Nat.add_zero] at this
 exact⟨b,off,e,hS,this⟩
theorem cut_full{S:Nat→Prop}{w:World}{a:Option Addr}{B:List UInt8}{c:Nat}(h:rBytes.r S w [.slice a B.length c] B){n:Nat}(h1:n≤B.length):
  (∀w':World,(Instr.slice 22 (.slice a B.length c) none (some (.int .i64 (n:Int))) (some (.int .i64 (n:Int)))).run Tryz.prog w'=.ok (.slice a n n) w')∧rBytes.r S w [.slice a n n] (B.take n):=by
 obtain⟨_,hm,hc,hcm⟩:=sl_len h
 have g1:(0:Int)≤(n:Int):=by omega
 have g3:(n:Int)≤(c:Int):=by omega
 refine⟨fun w'=> ?_,?_⟩
 ·clear h
  cases a with
  | none=>go_simp
  | some p=>go_simp
 ·obtain⟨a',c',e,h2,h3,h4⟩:=sl_take h h1
  have hl:(B.take n).length=n:=by simp;omega
  simp at e
  obtain⟨rfl,_,rfl⟩:=e
  exact rSl_mk (a:=a) (c:=n) (by rw[hl]) (by omega) (by omega) h4
def dealF:List (List Link × Nat)→List UInt8→List Entry→Option (List Entry)
 | [],D,out=>if D.length=0 then some out else none
 | (l,n)::r,D,out=>if D.length<n then none else dealF r (D.drop n) (out++[⟨l,D.take n⟩])
theorem dealF_is:∀(H:List (List Link × Nat)) (D:List UInt8) (out:List Entry),dealF H D out=if sizesN H=D.length then some (out++dealE H D) else none
 | [],D,out=>by
  simp only[dealF,sizesN,dealE,List.map_nil,List.sum_nil,List.append_nil]
  split
  ·rw[if_pos (by omega)]
  ·rw[if_neg (by omega)]
 | (l,n)::r,D,out=>by
  have hs:sizesN ((l,n)::r)=n+sizesN r:=by simp[sizesN]
  simp only[dealF]
  rw[hs]
  split
  ·rw[if_neg (by omega)]
  ·rw[dealF_is r (D.drop n)]
   simp only[List.length_drop,dealE,List.append_assoc,List.singleton_append]
   by_cases h:sizesN r=D.length-n
   ·rw[if_pos h,if_pos (by omega)]
   ·rw[if_neg h,if_neg (by omega)]
theorem entry_deal(H:List (List Link × Nat))(D:List UInt8)(a1 a2 a3:Option Addr)(n1 n2 n3 c1 c2 c3:Nat)(w:World)(hh:rEntries.r (·<w.heap.size) w [.slice a1 n1 c1] (H.map headE))(hs:rI64s.r (·<w.heap.size) w [.slice a2 n2 c2] (H.map fun h=>(h.2:Int)))
  (hd:rBytes.r (·<w.heap.size) w [.slice a3 n3 c3] D) (hH:H.length≤1000000) (hD:D.length≤1000000000) (hm:∀h∈H,h.1.length≤1000000000000∧∀z∈h.1,z.backs.length≤1000000000000):
  Calls Tryz.prog 282 #[.slice a1 n1 c1,.slice a2 n2 c2,.slice a3 n3 c3] w fun r w'=>∃v,r=.returned (.tuple #[v,.bool (dealF H D []).isSome])∧rEntriesW.r (Fresh w w') w' [v] ((dealF H D []).getD [])∧Below w.heap.size w w':=by
 obtain⟨rfl,hm1,_,_⟩:=sl_len hh
 obtain⟨rfl,hm2,_,_⟩:=sl_len hs
 obtain⟨rfl,hm3,_,_⟩:=sl_len hd
 obtain⟨i0,hi,hz0,hz1,hz2⟩:=info_parts infoEntry
 obtain⟨j0,hj,hy0,hy1,hy2⟩:=info_parts info8
 rw[List.length_map] at hh hs
 have HH:=hid hh
 have HS:=hid hs
 have HD:=hid (fun (W:World) (hW:Below w.heap.size w W)=>src_bytes (lift hd hW))
 have HONE:=hid (byteCells_one D)
 have HM:=hid hm
 rw[List.length_map,List.length_map]
 clear hh hs hd hm hm1 hm2 hm3
 go_enter Tryz.func282,Tryz.ntmps282
 go_wp2_with (at_builtin;go_loud (refine wpList_append_src rfl _ _ _ rfl w.heap.size 5 j0 (.int .u8 0) 1 1 Tryz.underlying22 hj hy0 hy1 hy2 rfl (by decide) (.slice (some ⟨w.heap.size,0,none⟩) 0 0) 0 [] rfl (own_empty _ (by simp) rfl) a3 D.length c3 (byteCells D) rfl (HD.out _ (by (repeat (first | with_reducible exact Below.refl _ _ | with_reducible assumption | (with_reducible refine below_alloc ?_ _) | (with_reducible refine Below.setCell ?_ (by first | omega | (simp;done) | (simp;omega)) _) | (with_reducible refine Below.drew ?_) | (with_reducible refine below_drewN ?_ _) | (refine below_then (by with_reducible assumption) ?_))))) HONE.out (by simp only[maxLen];omega) (by omega) (by simp) ?_;intro v5 w5 hown5 hgrow5 hat5;rw[Nat.zero_add,List.nil_append] at hown5;obtain⟨a5,c5,rfl⟩:=own_form hown5;have hb5:Below w.heap.size w w5:=(Below.grown (by (repeat (first | with_reducible exact Below.refl _ _ | with_reducible assumption | (with_reducible refine below_alloc ?_ _) | (with_reducible refine Below.setCell ?_ (by first | omega | (simp;done) | (simp;omega)) _) | (with_reducible refine Below.drew ?_) | (with_reducible refine below_drewN ?_ _) | (refine below_then (by with_reducible assumption) ?_)))) hgrow5 (by simp) (fun g e=>by {have e':some w.heap.size=some g:=e;injection e' with e';omega}));have HO5:=hid (own_bytes2 rfl hown5);clear hown5 hgrow5 hat5))
 go_loopw [8,9,23] (fun al v i wr=>∃(k:Nat) (J:List Entry) (R:List UInt8),k≤H.length∧i=.int .i64 k∧rBytes.r (fun q=>w.heap.size≤q∧q<w5.heap.size) wr [al] R∧R.length≤1000000000∧Hid (J.length=k)∧OwnEls w.heap.size rEntryW w5.heap.size 84 2 wr v J∧Below w5.heap.size w5 wr∧Hid (dealF H D []=dealF (H.drop k) R J)) (fun _ _ i _=>H.length-(intOf i).toNat)
 case atStart=>exact ⟨0,[],D,Nat.zero_le _,rfl,HO5.out,hD,hid rfl,OwnEls.nil,Below.refl _ _,hid rfl⟩
 case round=>
  obtain⟨k,J,R,hk,rfl,hR,hRl,hJl,hown,hb,hsp⟩:=hrel
  have hbw:=hb5.trans (hb.mono hb5.size)
  have hsz5:=hb5.size
  have hszr:=hb.size
  obtain⟨A,cR,hA,hR',_⟩:=sl_form hR
  simp only[List.cons.injEq,and_true] at hA
  subst hA
  obtain⟨av,cv,rfl⟩:=OwnEls.form hown
  rcases Nat.lt_or_ge k H.length with hlt | hge
  ·have hxk:(H.map headE)[k]'(by simpa using hlt)=headE H[k]:=by simp
   have hsk:(H.map fun h=>(h.2:Int))[k]'(by simpa using hlt)=(H[k].2:Int):=by simp
   obtain⟨b1,o1,hA1,hbb1,a4,c4,a6,c6,hc0,hc1,hd1,_⟩:=entry_at HH.out (i:=k) (by simpa using hlt)
   obtain⟨b2,o2,hA2,hbb2,he0⟩:=i64_at HS.out (i:=k) (by simpa using hlt)
   rw[hxk] at hc0 hc1 hd1
   rw[hsk] at he0
   subst hA1 hA2
   have hmk:=HM.out H[k] (List.getElem_mem hlt)
   have hstep:dealF (H.drop k) R J=if R.length<H[k].2 then none else dealF (H.drop (k+1)) (R.drop H[k].2) (J++[⟨H[k].1,R.take H[k].2⟩]):=by
    rw[List.drop_eq_getElem_cons hlt];rfl
   generalize H[k]=z at*
   obtain⟨l,n⟩:=z
   dsimp only[headE] at*
   have X0:=(hbw.cell (p:=⟨b1,o1+k*2,none⟩) hbb1).trans hc0
   have X1:=(hbw.cell (p:=⟨b1,o1+k*2+1,none⟩) hbb1).trans hc1
   have Y0:=(hbw.cell (p:=⟨b2,o2+k,none⟩) hbb2).trans he0
   have i1:(k:Int)<(H.length:Int):=by omega
   have hJ9:J.length≤1000000:=by have:=hJl.out;omega
   have hr1:b1<wr.heap.size:=by omega
   have hr2:b2<wr.heap.size:=by omega
   have hd1':=hid (lift hd1 hbw)
   have OW:=hid hown
   clear hc0 hc1 hd1 he0 hxk hsk hown
   rcases Nat.lt_or_ge R.length n with hlt2 | hge2
   ·rw[if_pos hlt2] at hstep
    have HSP:=hid (hsp.out.trans hstep)
    have d1:decide ((n:Int)<0)=false:=decide_eq_false (by omega)
    have d2:decide ((R.length:Int)<(n:Int))=true:=decide_eq_true (by omega)
    clear hsp hstep hR hR'
    go_wp2
    rw[HSP.out]
    refine bodyPost_ret (v:=.tuple #[.slice none 0 0,.bool false]) (by simp[results,Tryz.results282,go_sem]) rfl ⟨_,rfl,⟨none,0,rfl,Nat.le_refl _,Nat.zero_le _,.inl rfl⟩,by (repeat (first | with_reducible exact Below.refl _ _ | with_reducible assumption | (with_reducible refine below_alloc ?_ _) | (with_reducible refine Below.setCell ?_ (by first | omega | (simp;done) | (simp;omega)) _) | (with_reducible refine Below.drew ?_) | (with_reducible refine below_drewN ?_ _) | (refine below_then (by with_reducible assumption) ?_)))⟩
   ·rw[if_neg (by omega)] at hstep
    have HSP:=hid (hsp.out.trans hstep)
    have d1:decide ((n:Int)<0)=false:=decide_eq_false (by omega)
    have d2:decide ((R.length:Int)<(n:Int))=false:=decide_eq_false (by omega)
    obtain⟨hcut,hrc⟩:=cut_full hR' hge2
    obtain⟨A',c',hcut2,hrd⟩:=cut_to hR' hge2
    have HC:=hid (fun (W:World) (hW:Below wr.heap.size wr W)=>link_copyW l a4 l.length c4 W (lift hd1'.out hW) hmk.1 hmk.2)
    have HRC:=hid hrc
    have HRD:=hid hrd
    clear hsp hstep hR hR' hrc hrd hmk
    go_wp2_with fail
    refine (HC.out _ (by (repeat (first | with_reducible exact Below.refl _ _ | with_reducible assumption | (with_reducible refine below_alloc ?_ _) | (with_reducible refine Below.setCell ?_ (by first | omega | (simp;done) | (simp;omega)) _) | (with_reducible refine Below.drew ?_) | (with_reducible refine below_drewN ?_ _) | (refine below_then (by with_reducible assumption) ?_))))).mono ?_
    rintro r w7 ⟨v7,rfl,hv7,hb7⟩
    obtain⟨a7,c7,hfv,_,_⟩:=sl_form (linksW_links hv7)
    simp only[List.cons.injEq,and_true] at hfv
    subst hfv
    have B7:Blk w7 wr.heap.size 84 #[.slice a4 l.length c4,.slice a6 0 c6]:=Blk.later (by (repeat (first | assumption | exact Blk.newAt _ _ _ (by first | (simp;done) | (simp;omega)) | refine Blk.alloc ?_ _ | refine Blk.drew ?_ | refine Blk.drewN ?_ _ | refine Blk.far ?_ (by first | (simp;done) | (simp;omega)) _))) hb7
    obtain⟨x0,x1,f0,f1,l7⟩:=f_blk B7
    obtain⟨z0,z1,g0,g1,m7⟩:=f_blk (B7.set 0 (.slice a7 l.length c7))
    have hb78:Below wr.heap.size wr w7:=by (repeat (first | with_reducible exact Below.refl _ _ | with_reducible assumption | (with_reducible refine below_alloc ?_ _) | (with_reducible refine Below.setCell ?_ (by first | omega | (simp;done) | (simp;omega)) _) | (with_reducible refine Below.drew ?_) | (with_reducible refine below_drewN ?_ _) | (refine below_then (by with_reducible assumption) ?_)))
    have hz7:=hb7.size
    simp at hz7
    have hb8:Below wr.heap.size wr (((w7.setCell ⟨wr.heap.size,0,none⟩ (.slice a7 l.length c7)).setCell ⟨wr.heap.size,1,none⟩ (.slice A n n)).alloc (.cells #[.slice a7 l.length c7,.slice A n n] 84)):=by (repeat (first | with_reducible exact Below.refl _ _ | with_reducible assumption | (with_reducible refine below_alloc ?_ _) | (with_reducible refine Below.setCell ?_ (by first | omega | (simp;done) | (simp;omega)) _) | (with_reducible refine Below.drew ?_) | (with_reducible refine below_drewN ?_ _) | (refine below_then (by with_reducible assumption) ?_)))
    have hk8:∀q,wr.heap.size+1≤q→q<w7.heap.size→((((w7.setCell ⟨wr.heap.size,0,none⟩ (.slice a7 l.length c7)).setCell ⟨wr.heap.size,1,none⟩ (.slice A n n)).alloc (.cells #[.slice a7 l.length c7,.slice A n n] 84))).heap[q]? =w7.heap[q]? :=fun q h1 h2=>
     (Below.heap_alloc _ _ q (by simp;omega)).trans ((Below.heap_setCell _ _ _ _ (by dsimp only;omega)).trans (Below.heap_setCell _ _ _ _ (by dsimp only;omega)))
    have hsz8:((((w7.setCell ⟨wr.heap.size,0,none⟩ (.slice a7 l.length c7)).setCell ⟨wr.heap.size,1,none⟩ (.slice A n n)).alloc (.cells #[.slice a7 l.length c7,.slice A n n] 84))).heap.size=w7.heap.size+1:=by simp
    obtain⟨cells0,OA0⟩:=OW.out
    have hlt0:∀q,(Value.slice av J.length cv).ownBlock=some q→w5.heap.size≤q∧q<wr.heap.size:=fun q e=>own_lt OA0.1 q e
    obtain⟨cells,OA⟩:=OwnEls.below OW.out hb8
    have hx:rEntryW.r (fun b=>w.heap.size≤b∧b<((((w7.setCell ⟨wr.heap.size,0,none⟩ (.slice a7 l.length c7)).setCell ⟨wr.heap.size,1,none⟩ (.slice A n n)).alloc (.cells #[.slice a7 l.length c7,.slice A n n] 84))).heap.size∧(Value.slice av J.length cv).ownBlock≠some b) ((((w7.setCell ⟨wr.heap.size,0,none⟩ (.slice a7 l.length c7)).setCell ⟨wr.heap.size,1,none⟩ (.slice A n n)).alloc (.cells #[.slice a7 l.length c7,.slice A n n] 84))) [.slice a7 l.length c7,.slice A n n] ⟨l,R.take n⟩:=by
     refine entryW_mk (rLinksW.mono (rLinksW.keep hv7 (w':=(((w7.setCell ⟨wr.heap.size,0,none⟩ (.slice a7 l.length c7)).setCell ⟨wr.heap.size,1,none⟩ (.slice A n n)).alloc (.cells #[.slice a7 l.length c7,.slice A n n] 84))) fun q hq=>hk8 q (by have:=hq.1;simp at this;omega) hq.2) fun q hq=>⟨?_,?_,fun e=> ?_⟩) (rBytes.mono (rBytes.keep HRC.out (w':=(((w7.setCell ⟨wr.heap.size,0,none⟩ (.slice a7 l.length c7)).setCell ⟨wr.heap.size,1,none⟩ (.slice A n n)).alloc (.cells #[.slice a7 l.length c7,.slice A n n] 84))) fun q hq=>hb8.block q (by omega)) fun q hq=>⟨hq.1,?_,fun e=> ?_⟩)
     ·have:=hq.1;simp at this;omega
     ·have:=hq.2;omega
     ·have:=hlt0 q e;have:=hq.1;simp at this;omega
     ·have:=hq.2;omega
     ·have:=hlt0 q e;have:=hq.2;omega
    have HX:=hid hx
    have HA:=hid OA
    have HS9:Hid (w5.heap.size≤((((w7.setCell ⟨wr.heap.size,0,none⟩ (.slice a7 l.length c7)).setCell ⟨wr.heap.size,1,none⟩ (.slice A n n)).alloc (.cells #[.slice a7 l.length c7,.slice A n n] 84))).heap.size):=hid (by rw[hsz8];omega)
    have HB8:=hid hb8
    clear hx OA OA0 hlt0 hk8 hb7 hb8 hsz8 hb78 hv7 B7 OW
    go_wp2_with (at_builtin;go_loud (refine wpList_append_src rfl _ _ _ rfl w5.heap.size 84 i0 (.agg #[.slice none 0 0,.slice none 0 0]) 2 48 Tryz.underlying58 hi hz0 hz1 hz2 rfl (by decide) (.slice av J.length cv) J.length _ rfl HA.out.1 (some ⟨w7.heap.size,0,none⟩) 1 1 [.slice a7 l.length c7,.slice A n n] rfl (src_new1 ((w7.setCell ⟨wr.heap.size,0,none⟩ (.slice a7 l.length c7)).setCell ⟨wr.heap.size,1,none⟩ (.slice A n n)) 84 _ rfl (by simp) rfl) (by intro u hu;simp at hu;rcases hu with rfl | rfl<;>rfl) (by simp only[maxLen];omega) (by omega) HS9.out ?_;intro v9 w9 hown9 hgrow9 hat9;obtain⟨a9,c9,rfl⟩:=own_form hown9;have OP:=hid (OwnEls.push HA.out rfl HX.out hown9 hgrow9 hat9 hgrow9.size);have hb9:Below w5.heap.size wr w9:=(Below.grown (HB8.out.mono hszr) hgrow9 HS9.out (fun g e=>(own_lt HA.out.1 g e).1));clear hown9 hgrow9 hat9))
    have HRD9:=hid (rBytes.keep HRD.out (w':=w9) fun q hq=>hb9.block q hq.2)
    have HB9:=hid (hb.trans hb9)
    go_roundw
    case rel=>exact ⟨k+1,J++[⟨l,R.take n⟩],R.drop n,by omega,by go_num,HRD9.out,by simp;omega,hid (by rw[List.length_append,hJl.out];rfl),OP.out,HB9.out,HSP⟩
    case measure=>simp [intOf];omega
  ·obtain rfl:k=H.length:=by omega
   have hE:=hsp.out
   rw[List.drop_length] at hE
   have HV:=hid (OwnEls.sliceW (A:=rEntryW) (by exact hsz5) hown)
   clear hsp hown
   by_cases hR0:R.length=0
   ·have HSP:Hid (dealF H D []=some J):=hid (by rw[hE];simp only[dealF];rw[if_pos hR0])
    have d1:decide (0<(R.length:Int))=false:=decide_eq_false (by omega)
    clear hE hR hR'
    go_wp2
    rw[HSP.out]
    refine bodyPost_ret (v:=.tuple #[.slice av J.length cv,.bool true]) (by simp[results,Tryz.results282,go_sem]) rfl ⟨_,rfl,?_,by (repeat (first | with_reducible exact Below.refl _ _ | with_reducible assumption | (with_reducible refine below_alloc ?_ _) | (with_reducible refine Below.setCell ?_ (by first | omega | (simp;done) | (simp;omega)) _) | (with_reducible refine Below.drew ?_) | (with_reducible refine below_drewN ?_ _) | (refine below_then (by with_reducible assumption) ?_)))⟩
    exact HV.out
   ·have HSP:Hid (dealF H D []=none):=hid (by rw[hE];simp only[dealF];rw[if_neg hR0])
    have d1:decide (0<(R.length:Int))=true:=decide_eq_true (by omega)
    clear hE hR hR'
    go_wp2
    rw[HSP.out]
    refine bodyPost_ret (v:=.tuple #[.slice none 0 0,.bool false]) (by simp[results,Tryz.results282,go_sem]) rfl ⟨_,rfl,⟨none,0,rfl,Nat.le_refl _,Nat.zero_le _,.inl rfl⟩,by (repeat (first | with_reducible exact Below.refl _ _ | with_reducible assumption | (with_reducible refine below_alloc ?_ _) | (with_reducible refine Below.setCell ?_ (by first | omega | (simp;done) | (simp;omega)) _) | (with_reducible refine Below.drew ?_) | (with_reducible refine below_drewN ?_ _) | (refine below_then (by with_reducible assumption) ?_)))⟩
end Go.Proofs.YtmioakocnebceaaGreat
