/- Mini: Needed by lookupWhole_walk, part 3: texts put together by shake.py; no condition. -/
import Derived.StillTail
import Derived.RegionTactic
import Derived.OrdersHeld
import Derived.Deep.RegionHeld
import Derived.Test.YtmioakocnebceaaGreatWK1
import Derived.Test.YtmioakocnebceaaGreatWK2
import Derived.Deep.RegionHeld3
import Derived.IntWalk
import Derived.ScopeJumps
import Derived.WalkMore
import Derived.Deep.Cut
set_option linter.unusedVariables false
set_option linter.unusedSimpArgs false
set_option maxRecDepth 100000
set_option maxHeartbeats 6400000
namespace Go.Bs
open Go.RowKit
def noopOf(o:Oper):Oper:={o with op:=.move (.const (.bool true)),guard:=none}
def noopLast:List Oper→List Oper
 | []=>[]
 | [o]=>[noopOf o]
 | o::p::l=>o::noopLast (p::l)
theorem noopLast_length:∀l,(noopLast l).length=l.length
 | []=>rfl
 | [_]=>rfl
 | _::p::l=>by simp[noopLast,noopLast_length (p::l)]
theorem noopLast_get:∀(l:List Oper) (i:Nat),(noopLast l)[i]? =if i+1=l.length then (l[i]?).map noopOf else l[i]?
 | [],i=>by simp[noopLast]
 | [o],i=>by
  cases i with
  | zero=>simp [noopLast]
  | succ i=>simp [noopLast]
 | o::p::l,i=>by
  cases i with
  | zero=>simp [noopLast]
  | succ i=>
   have:=noopLast_get (p::l) i
   simp only[noopLast,List.getElem?_cons_succ,List.length_cons] at*
   rw[this]
   by_cases h:i+1=l.length+1
   ·rw[if_pos h,if_pos (by omega)]
   ·rw[if_neg h,if_neg (by omega)]
def lastB(md:Region.Mode)(l:List Oper):Bool:=
 (match l.getLast? with | none=>false | some o=>o.dst.isNone&&o.guard.isNone)&&(Region.sinkB md l.toArray (l.length-1)&&Region.chainB md l.toArray (l.length-1))&&
  (List.range l.length).all fun i=>match l[i]? with | none=>true | some o=>o.after.all fun e=>decide (e.on<i)
section
variable {P:Program} {md:Region.Mode}
theorem ready_noop(l:List Oper)(listed:Array Bool):Region.ready md (noopLast l).toArray listed=Region.ready md l.toArray listed:=by
 unfold Region.ready
 simp only[List.size_toArray,noopLast_length]
 refine List.filter_congr fun i _=> ?_
 simp only[List.getElem?_toArray,noopLast_get]
 by_cases h:i+1=l.length
 ·rw[if_pos h]
  cases l[i]? <;>rfl
 ·rw[if_neg h]
theorem yielded_noop(l:List Oper)(t:Array Value):yielded (noopLast l).toArray t=yielded l.toArray t:=by
 funext j
 unfold yielded
 simp only[List.getElem?_toArray,noopLast_get]
 by_cases h:j+1=l.length
 ·rw[if_pos h]
  cases l[j]? <;>rfl
 ·rw[if_neg h]
theorem wpOp_exits{ops:Array Oper}{Q Q':Exit→Act→World→Prop}{i:Nat}{K:Act→World→Prop}{a:Act}{w:World}(hQ:∀e a w,e≠ .normal→Q' e a w→Q e a w)(h:wpOp P ops Q' i K a w):wpOp P ops Q i K a w:=by
 unfold wpOp at*
 split
 ·rename_i ho
  simp only[ho] at h
  exact h
 ·rename_i o ho
  simp only[ho] at h
  split
  ·rename_i hw
   simp only[hw,if_true] at h
   have hl:LetsOut Q'→LetsOut Q:=fun ⟨a,w,h⟩=>⟨a,w,hQ _ _ _ (by simp) h⟩
   rcases h with h | ⟨h1,h2⟩
   ·left
    unfold Oper.wp at*
    generalize (execOp a.eval o).run P w=r at*
    cases r with
    | ok n w'=>
     cases n<;>simp only[Oper.upon] at h ⊢
     case value u=>exact h
     case skip=>exact h
     case defer d=>exact h
     case enter f args=>
      refine Calls.mono h fun e w'' he=> ?_
      cases e with
      | returned u=>exact he
      | panicked c=>exact hQ _ _ _ (by simp) he
      | outgrown=>exact hl he
     case row row args=>exact h
    | halt x w'=>
     cases x<;>simp only[Oper.upon] at h ⊢
     case panic u=>exact hQ _ _ _ (by simp) h
   ·exact .inr ⟨h1,hl h2⟩
  ·rename_i hw
   simp only[hw] at h
   exact h
theorem wpOp_noop{l:List Oper}{Q:Exit→Act→World→Prop}{i:Nat}{K:Act→World→Prop}{a:Act}{w:World}(hi:i+1≠l.length)(h:wpOp P (noopLast l).toArray Q i K a w):wpOp P l.toArray Q i K a w:=by
 unfold wpOp at*
 rw[yielded_noop] at h
 simp only[List.getElem?_toArray,noopLast_get,if_neg hi] at h ⊢
 exact h
def lastQ(P:Program)(l:List Oper)(o:Oper)(Q:Exit→Act→World→Prop):Exit→Act→World→Prop
 | .normal,a,w=>wpList P l.toArray Q [o] a w
 | e,a,w=>Q e a w
theorem lastQ_other{l:List Oper}{o:Oper}{Q:Exit→Act→World→Prop}{e:Exit}{a:Act}{w:World}(he:e≠ .normal)(h:lastQ P l o Q e a w):Q e a w:=by
 cases e<;>first | exact h | exact absurd rfl he
theorem ready_some{ops:Array Oper}{listed:Array Bool}(hd:∀(i:Nat) (o:Oper),ops[i]? =some o→∀e∈o.after,e.on<i)(hs:listed.size=ops.size):∀(n j:Nat),j<n→j<ops.size→listed.getD j true=false→Region.ready md ops listed≠[]
 | 0,j,h,_,_=>by omega
 | n+1,j,h,hj,hl=>by
  intro h0
  have hr:j∉Region.ready md ops listed:=by rw[h0];simp
  apply hr
  rw[mem_ready]
  have ho:ops[j]? =some ops[j]:=Array.getElem?_eq_getElem hj
  refine⟨hl,ops[j],ho,fun e he hb=> ?_⟩
  have hlt:=hd j _ ho e he
  cases hg:listed.getD e.on false with
  | true=>rfl
  | false=>exact absurd h0 (ready_some hd hs n e.on (by omega) (by omega) (getD_in (by omega) hg))
theorem wpAny_last{l:List Oper}{o:Oper}{Q:Exit→Act→World→Prop}(hlast:l[l.length-1]? =some o)(hpos:0<l.length)(hdst:o.dst=none)(hgd:o.guard=none)
  (hs1:Region.sinkB md l.toArray (l.length-1)=true) (hc1:Region.chainB md l.toArray (l.length-1)=true) (hd:∀(i:Nat) (o:Oper),l.toArray[i]? =some o→∀e∈o.after,e.on<i):
  ∀(fuel:Nat) (listed:Array Bool) (a:Act) (w:World),HeadInv md l.toArray (l.length-1) listed→
   wpAny P md (noopLast l).toArray (lastQ P l o Q) fuel listed a w→wpAny P md l.toArray Q fuel listed a w
 | 0,listed,a,w,inv,h=>by
  have hs:listed.size=l.length:=by simpa using inv.size
  have hl:=inv.tail (l.length-1) (Nat.le_refl _) (by simp;omega)
  exact absurd (by rw[←ready_noop];exact h.1) (ready_some (md:=md) hd (by simpa using hs) _ _ (Nat.lt_succ_self _) (by simp;omega) hl)
 | fuel+1,listed,a,w,inv,h=>by
  have hs:listed.size=l.length:=by simpa using inv.size
  have hl:=inv.tail (l.length-1) (Nat.le_refl _) (by simp;omega)
  have hne:=ready_some (md:=md) hd (by simpa using hs) _ _ (Nat.lt_succ_self _) (by simp;omega) hl
  refine⟨fun h0=>absurd h0 hne,fun i hi=> ?_⟩
  have h2:=h.2 i (by rw[ready_noop];exact hi)
  by_cases hin:i+1=l.length
  ·
   obtain rfl:i=l.length-1:=by omega
   have hr:=mem_ready.1 hi
   have hall:∀j,j<l.length→(listed.setIfInBounds (l.length-1) true).getD j true=true:=by
    intro j hj
    by_cases hjl:j=l.length-1
    ·subst hjl;simp[hs]
    ·rw[getD_set_ne true (by omega)]
     cases hg:listed.getD j true with
     | true=>rfl
     | false=>exact absurd hi (tail_waits hs1 hc1 (by simp;omega) inv _ j rfl (by omega) hg _ (Nat.le_refl _))
   have hrd:Region.ready md l.toArray (listed.setIfInBounds (l.length-1) true)=[]:=by
    rw[List.eq_nil_iff_forall_not_mem]
    intro j hj
    obtain⟨h1,o',ho',_⟩:=mem_ready.1 hj
    have hjl:j<l.length:=by
     have:=(Array.getElem?_eq_some_iff.1 ho').1
     simpa using this
    rw[hall j hjl] at h1
    cases h1
   have hQ:wpList P l.toArray Q [o] a w:=by
    unfold wpOp at h2
    simp only[List.getElem?_toArray,noopLast_get,if_pos (show l.length-1+1=l.length by omega),hlast,Option.map_some] at h2
    have hwant:Region.wanted (noopOf o) (yielded (noopLast l).toArray a.tmps)=true:=rfl
    rw[if_pos hwant] at h2
    rcases h2 with h2 | ⟨h2,_⟩
    ·have h3:wpAny P md (noopLast l).toArray (lastQ P l o Q) fuel (listed.setIfInBounds (l.length-1) true) (a.put (noopOf o).dst (.bool true)) w:=h2
     have h4:(noopOf o).dst=none:=hdst
     rw[h4] at h3
     cases fuel with
     | zero=>exact h3.2
     | succ f=>exact h3.1 (by rw[ready_noop];exact hrd)
    ·exfalso
     simp only[Oper.asks,noopOf,execOp] at h2
     have h5:=h2.1
     have h6:noRoomEvent∈(#[]:Array Event):=h5
     simp at h6
   unfold wpOp
   simp only[List.getElem?_toArray,hlast]
   have hwant:Region.wanted o (yielded l.toArray a.tmps)=true:=by simp[Region.wanted,hgd]
   rw[if_pos hwant]
   unfold wpList at hQ
   rw[if_pos hwant] at hQ
   refine hQ.imp (fun h=>Oper.wp_mono (fun a' w' h'=> ?_) h) id
   cases fuel with
   | zero=>exact ⟨hrd,h'⟩
   | succ f=>exact ⟨fun _=>h',by rw[hrd];simp⟩
  ·refine wpOp_exits (fun e a w he h=>lastQ_other he h) (wpOp_noop hin (wpOp_mono (fun a' w' h'=> ?_) h2))
   exact wpAny_last hlast hpos hdst hgd hs1 hc1 hd fuel _ a' w' (inv.set hi (by
    have:=(mem_ready.1 hi).2
    obtain⟨o',ho',_⟩:=this
    have:=(Array.getElem?_eq_some_iff.1 ho').1
    simp at this
    omega)) h'
theorem wp_region_last{id:Nat}{Q:Exit→Act→World→Prop}{a:Act}{w:World}{l:List Oper}(o:Oper)(hm:P.follows .mixedOrders=true)(ho:l[l.length-1]? =some o)(hB:lastB .any l=true)
  (h:wpAny P .any (noopLast l).toArray (lastQ P l o Q) (noopLast l).toArray.size (Array.replicate (noopLast l).toArray.size false) a {w with drawn:=w.drawn+1}):(Code.region id l.toArray true).wp P Q a w:=by
 have hpos:0<l.length:=by
  rcases Nat.eq_zero_or_pos l.length with h | h
  ·rw[List.eq_nil_of_length_eq_zero h] at ho;simp at ho
  ·exact h
 simp only[lastB,Bool.and_eq_true] at hB
 obtain⟨⟨h1,h2,h2'⟩,h3⟩:=hB
 rw[List.getLast?_eq_getElem?,ho] at h1
 simp only[Bool.and_eq_true,Option.isNone_iff_eq_none] at h1
 have inv0:HeadInv .any l.toArray (l.length-1) (Array.replicate l.toArray.size false):=
  ⟨by simp,fun j oj _ hl=>(by rw[getD_replicate_false] at hl;cases hl),fun t _ ht=>getD_in (by simpa using ht) (getD_replicate_false _ _)⟩
 refine wp_region_any hm (wpAny_last ho hpos h1.1 h1.2 h2 h2' ?_ _ _ a _ inv0 (by simpa [noopLast_length] using h))
 intro i o' ho' e he
 have hi:i<l.length:=by
  have:=(Array.getElem?_eq_some_iff.1 ho').1
  simpa using this
 have:=List.all_eq_true.1 h3 i (List.mem_range.2 hi)
 simp only[List.getElem?_toArray] at ho'
 rw[ho'] at this
 have h4:=Array.all_eq_true'.1 this e he
 simpa using h4
theorem wp_region_last_held{id:Nat}{Q:Exit→Act→World→Prop}{a:Act}{w:World}{l:List Oper}(S:World→Prop)(o:Oper)(hm:P.follows .mixedOrders=true)(ho:l[l.length-1]? =some o)(hB:lastB .any l=true)
  (hS:S w.drew) (h:S w.drew→wpAnyH P .any (noopLast l).toArray (lastQ P l o Q) S l.length (Array.replicate l.length false) a w.drew):(Code.region id l.toArray true).wp P Q a w:=
 wp_region_last o hm ho hB (wpAny_of_held _ _ _ _ (by simpa [noopLast_length] using h hS))
end
end Go.Bs
namespace Go.Proofs.YtmioakocnebceaaGreat
open Go.RowKit Go.Bs Go.Maps
def rTok:Rp Tok:=rBy (fun t=>(t.lit,t.off,t.len)) (rPair rBytes (rPair (rInt .i64) (rInt .i64)))
def rToks:Rp (List Tok):=rSl 3 rTok
theorem i64_wf{n:Int}(h: -9223372036854775808≤n∧n≤9223372036854775807):(Lit.int .i64 n).wf=true:=by
 simp[Lit.wf,IntKind.min,IntKind.max,IntKind.signed,IntKind.bits];omega
theorem tok_mk{S:Nat→Prop}{w:World}{x:Tok}{v:Value}(h:rBytes.r S w [v] x.lit)(h1: -9223372036854775808≤x.off∧x.off≤9223372036854775807)(h2: -9223372036854775808≤x.len∧x.len≤9223372036854775807):rTok.r S w [v,.int .i64 x.off,.int .i64 x.len] x:=
 ⟨[_],[_,_],rfl,h,[_],[_],rfl,⟨rfl,i64_wf h1⟩,rfl,i64_wf h2⟩
theorem infoTok:(Tryz.prog.info? 414).map (fun i=>(i.zero,i.size,i.bytes))=some (some (.agg #[.slice none 0 0,.int .i64 0,.int .i64 0]),3,40):=by kernel_rfl
theorem sl_drop{α:Type}{sz:Nat}{A:Rp α}{S:Nat→Prop}{w:World}{xs:List α}{b off:Nat}{n c k:Nat}(h:(rSl sz A).r S w [.slice (some ⟨b,off,none⟩) n c] xs)(hk:k≤xs.length):(rSl sz A).r S w [.slice (some ⟨b,off+k*sz,none⟩) (n-k) (c-k)] (xs.drop k):=by
 obtain⟨a',c',e,h1,h2,h3⟩:=h
 simp at e
 obtain⟨rfl,rfl,rfl⟩:=e
 refine rSl_mk (a:=some ⟨b,off+k*sz,none⟩) (c:=c-k) (by simp) (by simp;omega) (by omega) ?_
 rcases h3 with rfl | ⟨b',off',e',hS,hr⟩
 ·exact .inl (by simp)
 ·simp at e'
  obtain⟨rfl,rfl⟩:=e'
  refine .inr ⟨b,off+k*sz,rfl,hS,fun i x hi=> ?_⟩
  rw[List.getElem?_drop] at hi
  obtain⟨cs,h4,h5,h6⟩:=hr (k+i) x hi
  refine⟨cs,h4,fun j v hj=> ?_,h6⟩
  have:=h5 j v hj
  rw[show off+k*sz+i*sz+j=off+(k+i)*sz+j by rw[Nat.add_mul];omega]
  exact this
def RunPost(w:World)(bo lo:Nat)(F:Nat→Prop)(v:Value)(L':List Tok)(r:Ending)(w':World):Prop:=r=.returned (.tuple #[])∧
 ∃av' cv' cells',Blk w' bo 435 #[.slice av' L'.length cv']∧OwnElsF (fun q=>F q∨(w.heap.size≤q∧q<w'.heap.size)) rTok lo 414 3 w' (.slice av' L'.length cv') L' cells'∧Tch (fun q=>q=bo∨v.ownBlock=some q) w w'∧((Value.slice av' L'.length cv').ownBlock=v.ownBlock∨∃q,(Value.slice av' L'.length cv').ownBlock=some q∧w.heap.size≤q)
theorem press_run(w:World){bf bo bb lo:Nat}{F:Nat→Prop}{b:List UInt8}{a:Option Addr}{c i to:Nat}{av:Option Addr}{cv:Nat}{L:List Tok}{cells:List (List Value)}
  (hf:Blk w bf 3 #[.int .i64 (i:Int)]) (ho:Blk w bo 435 #[.slice av L.length cv]) (hb:Blk w bb 22 #[.slice a b.length c]) (hl:rBytes.r (fun q=>q<w.heap.size) w [.slice a b.length c] b)
  (hown:OwnElsF F rTok lo 414 3 w (.slice av L.length cv) L cells) (hF:∀q,F q→q<w.heap.size) (hFo:¬F bo) (hoo:(Value.slice av L.length cv).ownBlock≠some bo)
  (hne:bo≠bf∧bo≠bb∧(Value.slice av L.length cv).ownBlock≠some bf∧(Value.slice av L.length cv).ownBlock≠some bb) (hto:to≤b.length) (hlen:b.length≤1048576) (hL:L.length≤2097152) (hlo:lo≤w.heap.size):
  Calls Tryz.prog 413 #[.int .i64 (to:Int),.pointer (some ⟨bf,0,none⟩),.pointer (some ⟨bo,0,none⟩),.pointer (some ⟨bb,0,none⟩)] w (RunPost w bo lo F (.slice av L.length cv) (L++litT b i to)):=by
 have f0:w.cell? ⟨bf,0,none⟩=some (.int .i64 (i:Int)):=hf.cell 0
 by_cases hit:i<to
 ·have hlit:litT b i to=[⟨(b.drop i).take (to-i),0,0⟩]:=by unfold litT;rw[if_pos hit]
  obtain⟨ga,oa,hA,hga,_⟩:=byte_at hl (i:=i) (by omega)
  subst hA
  obtain⟨_,_,hlc,hcm⟩:=sl_len hl
  obtain⟨i0,hi0,hz0,hz1,hz2⟩:=info_parts info8
  obtain⟨j0,hj0,hy0,hy1,hy2⟩:=info_parts infoTok
  have o0:w.cell? ⟨bo,0,none⟩=some (.slice av L.length cv):=ho.cell 0
  have b0:w.cell? ⟨bb,0,none⟩=some (.slice (some ⟨ga,oa,none⟩) b.length c):=hb.cell 0
  have of:=ho.free 0
  have lf:=hf.lt;have lo':=ho.lt;have lb:=hb.lt
  have hsub:Hid (rBytes.r (fun q=>q<w.heap.size) w [.slice (some ⟨ga,oa+i,none⟩) (to-i) (c-i)] ((b.drop i).take (to-i))):=hid (by
   have h1:=sl_drop hl (k:=i) (by omega)
   rw[Nat.mul_one] at h1
   exact sl_take h1 (by simp;omega))
  have hsl':((b.drop i).take (to-i)).length=to-i:=by simp;omega
  generalize hD:(b.drop i).take (to-i)=D at*
  clear hD
  have HLIT:=hid hlit;have HSL:=hid hsl'
  have hds:Hid (to-i=D.length):=hid hsl'.symm
  have HS:=hid (fun (W:World) (hW:Below w.heap.size w W)=>src_bytes (l:=D) (lift (w:=w) (A:=rBytes) (by have:=hsub.out;rw[hds.out] at this;exact this) hW))
  have HONE:=hid (byteCells_one D)
  have hsl:∀w':World,(Instr.slice 22 (.slice (some ⟨ga,oa,none⟩) b.length c) (some (.int .i64 (i:Int))) (some (.int .i64 (to:Int))) none).run Tryz.prog w'=.ok (.slice (some ⟨ga,oa+i,none⟩) D.length (c-i)) w':=fun w'=>by
   rw[←hds.out]
   have g1:(0:Int)≤(i:Int):=by omega
   have g2:(i:Int)≤(to:Int):=by omega
   have g3:(to:Int)≤(c:Int):=by omega
   have g4:¬c=i:=by omega
   go_simp
  have HF:=hid hF;have HFO:=hid hFo;have HOO:=hid hoo;have HOWN:=hid hown
  have HHO:=hid ho
  have lenD:D.length≤1048576:=by omega
  have g1:(0:Int)≤(i:Int):=by omega
  have g2:(i:Int)≤(to:Int):=by omega
  have g3:(to:Int)≤(c:Int):=by omega
  have g4:(to:Int)≤(b.length:Int):=by omega
  have d1:decide ((i:Int)<(to:Int))=true:=by simp;omega
  have d1':decide (i<to)=true:=by simp;omega
  obtain⟨ne1,ne2,ne3,ne4⟩:=hne
  clear hF hFo hoo hown ho hb hl hf hlit hsl' hsub hds
  go_enter Tryz.func413,Tryz.ntmps413
  go_wp2_with fail
  refine wp_region_last_held (fun w'=>w'.cell? ⟨bf,0,none⟩=some (.int .i64 (i:Int))∧w'.cell? ⟨bo,0,none⟩=some (.slice av L.length cv)∧w'.cell? ⟨bb,0,none⟩=some (.slice (some ⟨ga,oa,none⟩) b.length c)) _ (by kernel_rfl) rfl (by kernel_rfl) ⟨f0,o0,b0⟩ (fun hHeld=> ?_)
  simp only[noopLast,noopOf]
  refine wpAnyH_take (i:=0) (oi:=_) (v:=?_) rfl (by decide+kernel) (by decide+kernel) (by decide+kernel) (fun _ _ _ h=>h) (Or.inl ⟨by rfl,?_⟩) (by assumption) ?_
  rotate_left
  ·(intro w hSw;(try dsimp only at hSw);go_simp<;>with_reducible rfl)
  (try simp only[Act.put,List.setIfInBounds_toArray,List.set_cons_zero,List.set_cons_succ])
  refine wpAnyH_take (i:=2) (oi:=_) (v:=?_) rfl (by decide+kernel) (by decide+kernel) (by decide+kernel) (fun _ _ _ h=>h) (Or.inl ⟨by rfl,?_⟩) (by assumption) ?_
  rotate_left
  ·(intro w hSw;(try dsimp only at hSw);go_simp<;>with_reducible rfl)
  (try simp only[Act.put,List.setIfInBounds_toArray,List.set_cons_zero,List.set_cons_succ])
  refine wpAnyH_take (i:=3) (oi:=_) (v:=?_) rfl (by decide+kernel) (by decide+kernel) (by decide+kernel) (fun _ _ _ h=>h) (Or.inl ⟨by rfl,?_⟩) (by assumption) ?_
  rotate_left
  ·(intro w hSw;(try dsimp only at hSw);go_simp<;>with_reducible rfl)
  (try simp only[Act.put,List.setIfInBounds_toArray,List.set_cons_zero,List.set_cons_succ])
  refine wpAnyH_take (i:=4) (oi:=_) (v:=?_) rfl (by decide+kernel) (by decide+kernel) (by decide+kernel) (fun _ _ _ h=>h) (Or.inl ⟨by rfl,?_⟩) (by assumption) ?_
  rotate_left
  ·(intro w hSw;(try dsimp only at hSw);go_simp<;>with_reducible rfl)
  (try simp only[Act.put,List.setIfInBounds_toArray,List.set_cons_zero,List.set_cons_succ])
  refine wpAnyH_take (i:=5) (oi:=_) (v:=?_) rfl (by decide+kernel) (by decide+kernel) (by decide+kernel) (fun _ _ _ h=>h) (Or.inl ⟨by rfl,?_⟩) (by assumption) ?_
  rotate_left
  ·(intro w hSw;(try dsimp only at hSw);go_simp<;>with_reducible rfl)
  (try simp only[Act.put,List.setIfInBounds_toArray,List.set_cons_zero,List.set_cons_succ])
  refine wpAnyH_ready (rs:=[1]) (by decide+kernel) (by simp) ?_
  refine AllReadyH.cons (o:=_) rfl (fun K hK=> ?_) AllReadyH.nil
  go_simp
  refine hK.out _ _ ?_ (fun hHeld=> ?_)
  ·((try dsimp only);refine⟨?_,?_,?_⟩<;>(first | assumption | (go_keep;done)))
  clear hK K
  (try simp only[Act.put,List.setIfInBounds_toArray,List.set_cons_zero,List.set_cons_succ])
  refine wpAnyH_ready (rs:=[6]) (by decide+kernel) (by simp) ?_
  refine AllReadyH.cons (o:=_) rfl (fun K hK=> ?_) AllReadyH.nil
  (refine step_append_src (by rfl) _ _ _ (by rfl) w.heap.size 5 i0 (.int .u8 0) 1 1 Tryz.underlying22 hi0 hz0 hz1 hz2 rfl (by decide) _ 0 [] (by rfl) (own_empty _ (by simp) (by rfl)) (some ⟨ga,oa+i,none⟩) D.length (c-i) (byteCells D) (by rfl) (HS.out _ (by (repeat (first | exact Below.refl _ _ | assumption | (refine below_alloc ?_ _) | (refine Below.setCell ?_ (by first | omega | (simp;done) | (simp;omega)) _) | (refine Below.drew ?_) | (refine below_drewN ?_ _) | (refine below_then (by assumption) ?_))))) HONE.out (by simp only[maxLen];omega) (by omega) (by simp) ?_;intro a5 c5 w5 hown5 hgrow5 hat5;rw[Nat.zero_add] at hown5;have k5:Below w.heap.size w w5:=Below.grown (by (repeat (first | exact Below.refl _ _ | assumption | (refine below_alloc ?_ _) | (refine Below.setCell ?_ (by first | omega | (simp;done) | (simp;omega)) _) | (refine Below.drew ?_) | (refine below_drewN ?_ _) | (refine below_then (by assumption) ?_)))) hgrow5 (by simp) (fun g e=>by {have e':some w.heap.size=some g:=e;injection e' with e';omega});have e0:=(k5.cell (p:=⟨bf,0,none⟩) lf).trans f0;have e1:=(k5.cell (p:=⟨bo,0,none⟩) lo').trans o0;have e2:=(k5.cell (p:=⟨bb,0,none⟩) lb).trans b0;have HK5:=hid k5;have HG5:=hid hgrow5;have HO5:=hid hown5;have HA5:=hid hat5;have hs5:w.heap.size+1≤w5.heap.size:=(by have:=hgrow5.size;simpa using this);clear hown5 hgrow5 hat5 k5)
  refine hK.out _ _ ?_ (fun hHeld=> ?_)
  ·((try dsimp only);refine⟨?_,?_,?_⟩<;>(first | assumption | (go_keep;done)))
  clear hK K
  (try simp only[Act.put,List.setIfInBounds_toArray,List.set_cons_zero,List.set_cons_succ])
  refine wpAnyH_take (i:=7) (oi:=_) (v:=?_) rfl (by decide+kernel) (by decide+kernel) (by decide+kernel) (fun _ _ _ h=>h) (Or.inl ⟨by rfl,?_⟩) (by assumption) ?_
  rotate_left
  ·(intro w hSw;(try dsimp only at hSw);go_simp<;>with_reducible rfl)
  (try simp only[Act.put,List.setIfInBounds_toArray,List.set_cons_zero,List.set_cons_succ])
  refine wpAnyH_ready (rs:=[8]) (by decide+kernel) (by simp) ?_
  refine AllReadyH.cons (o:=_) rfl (fun K hK=> ?_) AllReadyH.nil
  go_simp
  refine hK.out _ _ ?_ (fun hHeld=> ?_)
  ·((try dsimp only);refine⟨?_,?_,?_⟩<;>(first | assumption | (go_keep;done)))
  clear hK K
  (try simp only[Act.put,List.setIfInBounds_toArray,List.set_cons_zero,List.set_cons_succ])
  refine wpAnyH_ready (rs:=[9]) (by decide+kernel) (by simp) ?_
  refine AllReadyH.cons (o:=_) rfl (fun K hK=> ?_) AllReadyH.nil
  (refine step_append_src (by rfl) _ _ _ (by rfl) lo 414 j0 (.agg #[.slice none 0 0,.int .i64 0,.int .i64 0]) 3 40 Tryz.underlying435 hj0 hy0 hy1 hy2 rfl (by decide) (.slice av L.length cv) L.length cells.flatten (by rfl) (own_below (own_below HOWN.out.1 HK5.out) (by (repeat (first | exact Below.refl _ _ | assumption | (refine below_alloc ?_ _) | (refine Below.setCell ?_ (by first | omega | (simp;done) | (simp;omega)) _) | (refine Below.drew ?_) | (refine below_drewN ?_ _) | (refine below_then (by assumption) ?_))))) (some ⟨w5.heap.size,0,none⟩) 1 1 [.slice a5 D.length c5,.int .i64 0,.int .i64 0] (by rfl) (src_new1 w5 414 _ (by rfl) (by rfl) rfl) (by intro u hu;simp at hu;rcases hu with rfl | rfl | rfl<;>rfl) (by simp only[maxLen];omega) (by omega) (by simp;omega) ?_;intro a8 c8 w8 hown8 hgrow8 hat8;have G:=fun b' (hb:b'<w.heap.size) (hne:(Value.slice av L.length cv).ownBlock≠some b')=>(hgrow8.block b' (by simp;omega) (fun e=>hne e.symm)).trans ((Below.heap_alloc w5 _ b' (by omega)).trans (HK5.out.block b' hb));have m1:=(World.cell?_of_block (a:=⟨bo,0,none⟩) (G bo lo' HOO.out)).trans o0;have m2:=(World.frozen?_of_block (a:=⟨bo,0,none⟩) (G bo lo' HOO.out)).trans of;have m4:=(World.cell?_of_block (a:=⟨bf,0,none⟩) (G bf lf ne3)).trans f0;have m5:=(World.cell?_of_block (a:=⟨bb,0,none⟩) (G bb lb ne4)).trans b0;have m3:bo<w8.heap.size:=Nat.lt_of_lt_of_le lo' (Nat.le_trans (by simp;omega) hgrow8.size);have HG8:=hid hgrow8;have HO8:=hid hown8;have HA8:=hid hat8;have HGG:=hid G;clear hgrow8 hown8 hat8 G)
  refine hK.out _ _ ?_ (fun hHeld=> ?_)
  ·((try dsimp only);refine⟨?_,?_,?_⟩<;>(first | assumption | (go_keep;done)))
  clear hK K
  (try simp only[Act.put,List.setIfInBounds_toArray,List.set_cons_zero,List.set_cons_succ])
  refine wpAnyH_take (i:=10) (oi:=_) (v:=?_) rfl (by decide+kernel) (by decide+kernel) (by decide+kernel) (fun _ _ _ h=>h) (Or.inl ⟨by rfl,?_⟩) (by assumption) ?_
  rotate_left
  ·(intro w hSw;(try dsimp only at hSw);go_simp<;>with_reducible rfl)
  (try simp only[Act.put,List.setIfInBounds_toArray,List.set_cons_zero,List.set_cons_succ])
  refine wpAnyH_done (by kernel_rfl) ?_ _
  show wpList _ _ _ _ _ _
  have hA:=own_bytes2 rfl HO5.out
  have keepA:∀q,q<w5.heap.size→(w5.alloc (.cells #[.slice a5 D.length c5,.int .i64 0,.int .i64 0] 414)).heap[q]? =w5.heap[q]? :=fun q hq=>Below.heap_alloc w5 _ q hq
  have OF2:=(HOWN.out.keep (w':=w5.alloc (.cells #[.slice a5 D.length c5,.int .i64 0,.int .i64 0] 414)) (fun q hq=>(keepA q (by have:=HF.out q hq;omega)).trans (HK5.out.block q (HF.out q hq))) (fun q hq=>by
   have h1:=(HOWN.out.1.lt q hq).2
   exact (keepA q (by omega)).trans (HK5.out.block q h1))).mono (F':=fun q=>F q∨(w.heap.size≤q∧q<w5.heap.size)) (fun q h=> .inl h)
  have hx:rTok.r (fun q=>(F q∨(w.heap.size≤q∧q<w5.heap.size))∧(Value.slice av L.length cv).ownBlock≠some q) (w5.alloc (.cells #[.slice a5 D.length c5,.int .i64 0,.int .i64 0] 414)) [.slice a5 D.length c5,.int .i64 0,.int .i64 0] ⟨D,0,0⟩:=
   tok_mk (x:=⟨D,0,0⟩) (rBytes.mono (rBytes.keep hA fun q hq=>keepA q hq.2) fun q hq=>⟨.inr hq,fun e=>by have:=(HOWN.out.1.lt q e).2;omega⟩) (by simp) (by simp)
  have OPU:=OwnElsF.push OF2 (fun q hq=>hq.elim (fun h=>by have:=HF.out q h;simp;omega) fun h=>by simp;omega) rfl hx HO8.out HG8.out HA8.out
  have hs8:=HG8.out.size
  have hoo':(Value.slice a8 (L.length+1) c8).ownBlock≠some bo:=fun e=>by
   rcases HA8.out with h | h
   ·rw[h] at e;exact HOO.out e
   ·rw[h] at e;simp at e;omega
  have hsz:(w8.setCell ⟨bo,0,none⟩ (.slice a8 (L.length+1) c8)).heap.size=w8.heap.size:=by simp[World.setCell]
  have OP9:=(OPU.keep (w':=w8.setCell ⟨bo,0,none⟩ (.slice a8 (L.length+1) c8)) (fun q hq=>Below.heap_setCell _ _ _ _ (fun e=>by
   subst e
   rcases hq with h | h
   ·exact HFO.out h
   ·omega)) (fun q hq=>Below.heap_setCell _ _ _ _ (fun e=>hoo' (by rw[hq];exact congrArg some e)))).mono (F':=fun q=>F q∨(w.heap.size≤q∧q<(w8.setCell ⟨bo,0,none⟩ (.slice a8 (L.length+1) c8)).heap.size)) (fun q hq=>by
    rw[hsz]
    rcases hq with h | h
    ·exact .inl h
    ·simp at hs8;exact .inr ⟨h.1,by omega⟩)
  have hB8:Blk w8 bo 435 #[.slice av L.length cv]:=(HGG.out bo lo' HOO.out).trans HHO.out
  have htch:Tch (fun q=>q=bo∨(Value.slice av L.length cv).ownBlock=some q) w (w8.setCell ⟨bo,0,none⟩ (.slice a8 (L.length+1) c8)):=
   Tch.setCell ⟨HG8.out.os.trans HK5.out.os,HG8.out.tape.trans HK5.out.tape,HG8.out.output.trans HK5.out.output,by simp at hs8;omega,fun q hq hf=>HGG.out q hq (fun e=>hf (.inr e))⟩ (fun _=> .inl rfl) _
  have hst:RunPost w bo lo F (.slice av L.length cv) (L++litT b i to) (.returned (.tuple #[])) (w8.setCell ⟨bo,0,none⟩ (.slice a8 (L.length+1) c8)):=by
   rw[HLIT.out]
   have hll:(L++[(⟨D,0,0⟩:Tok)]).length=L.length+1:=by simp
   refine⟨rfl,a8,c8,cells++[[.slice a5 D.length c5,.int .i64 0,.int .i64 0]],?_,?_,htch,?_⟩
   ·rw[hll];exact hB8.set 0 _
   ·rw[hll];exact OP9
   ·rw[hll]
    rcases HA8.out with h | h
    ·exact .inl h
    ·exact .inr ⟨_,h,by simp;omega⟩
  have HST:=hid hst
  clear hst htch OP9 OPU OF2 hx keepA hA hoo' hsz hB8
  go_wp2_with fail
  refine bodyPost_ret (results_none rfl _ _ _) rfl ?_
  exact HST.out
 ·have hlit:litT b i to=[]:=by unfold litT;rw[if_neg hit]
  have d1:decide ((i:Int)<(to:Int))=false:=by simp;omega
  have d1':decide (i<to)=false:=by simp;omega
  have hst:RunPost w bo lo F (.slice av L.length cv) (L++litT b i to) (.returned (.tuple #[])) w:=by
   rw[hlit,List.append_nil]
   exact⟨rfl,av,cv,cells,ho,hown.mono fun q h=> .inl h,Tch.refl _ _,.inl rfl⟩
  have HST:=hid hst
  clear hst hlit hown ho hb hl hf hit
  go_enter Tryz.func413,Tryz.ntmps413
  go_wp2
  refine bodyPost_ret (results_none rfl _ _ _) rfl ?_
  exact HST.out
structure Rs where
 p:Nat
 k:Int
 f:Int
def Rs.fail(s:Rs)(c at_:Int):Rs:=if s.k=0 then ⟨s.p,c,at_⟩ else s
def Rs.skip(L:Nat)(s:Rs)(n:Int):Bool × Rs:=
 if s.k=0 then (if n<0 then (false,⟨s.p,17,s.p⟩) else if (L:Int)-s.p<n then (false,⟨s.p,1,L⟩) else (true,⟨s.p+n.toNat,0,0⟩)) else (false,s)
def Rs.take(B:List UInt8)(s:Rs)(n:Int):Rs × List UInt8:=((s.skip B.length n).2,if (s.skip B.length n).1 then (B.drop s.p).take n.toNat else [])
def Rs.byte(B:List UInt8)(s:Rs):Rs × UInt8:=((s.skip B.length 1).2,if (s.skip B.length 1).1 then B.getD s.p 0 else 0)
structure Rs.ok(s:Rs)(L:Nat):Prop where
 le:s.p≤L
 zero:s.k=0→s.f=0
theorem Rs.fail_ok{s:Rs}{L:Nat}(h:s.ok L){c at_:Int}(hc:c≠0):(s.fail c at_).ok L:=by
 unfold Rs.fail;split
 ·exact⟨h.le,fun e=>absurd e hc⟩
 ·exact h
theorem Rs.skip_ok{s:Rs}{L:Nat}(h:s.ok L)(n:Int):(s.skip L n).2.ok L:=by
 have:=h.le
 unfold Rs.skip;split
 ·split
  ·exact⟨h.le,fun e=>by simp at e⟩
  ·split
   ·exact⟨h.le,fun e=>by simp at e⟩
   ·exact⟨by dsimp only;omega,fun _=>rfl⟩
 ·exact h
theorem Rs.skip_p{s:Rs}{L:Nat}(h:s.ok L)(n:Int):s.p≤(s.skip L n).2.p:=by
 unfold Rs.skip;split
 ·split
  ·exact Nat.le_refl _
  ·split
   ·exact Nat.le_refl _
   ·dsimp only;omega
 ·exact Nat.le_refl _
theorem Rs.take_ok{s:Rs}{B:List UInt8}(h:s.ok B.length)(n:Int):(s.take B n).1.ok B.length:=s.skip_ok h n
theorem Rs.byte_ok{s:Rs}{B:List UInt8}(h:s.ok B.length):(s.byte B).1.ok B.length:=s.skip_ok h 1
structure RdAt(w:World)(g:Nat)(B:List UInt8)(a:Option Addr)(s:Rs):Prop where
 blk:Blk w g 331 #[.slice a B.length B.length,.int .i64 (s.p:Int),.int .i64 s.k,.int .i64 s.f]
 dat:rBytes.r (fun q=>q<w.heap.size∧q≠g) w [.slice a B.length B.length] B
 ok:s.ok B.length
def RdStep(w:World)(g:Nat)(B:List UInt8)(a:Option Addr)(s':Rs)(w':World):Prop:=RdAt w' g B a s'∧Tch (·=g) w w'
section
variable {w w1 w2:World} {g:Nat} {B:List UInt8} {a:Option Addr} {s s':Rs}
theorem RdAt.later(h:RdAt w g B a s)(hb:Below w.heap.size w w1):RdAt w1 g B a s:=
 ⟨h.blk.later hb,rBytes.mono (rBytes.keep h.dat fun q hq=>hb.block q hq.1) fun q hq=>⟨Nat.lt_of_lt_of_le hq.1 hb.size,hq.2⟩,h.ok⟩
theorem RdAt.len(h:RdAt w g B a s):B.length≤9223372036854775807:=(sl_len h.dat).2.1
theorem RdStep.later(h:RdAt w g B a s)(hb:Below w.heap.size w w1):RdStep w g B a s w1:=⟨h.later hb,Tch.of_later hb⟩
theorem RdStep.refl(h:RdAt w g B a s):RdStep w g B a s w:=⟨h,Tch.refl _ _⟩
theorem RdStep.trans(h:Tch (·=g) w w1)(k:RdStep w1 g B a s' w2):RdStep w g B a s' w2:=⟨k.1,h.trans k.2 fun _ _ h=>h⟩
theorem RdStep.then(h:RdStep w g B a s w1)(hb:Below w1.heap.size w1 w2):RdStep w g B a s w2:=⟨h.1.later hb,h.2.trans (Tch.of_later (F:=(·=g)) hb) fun _ _ h=>h⟩
theorem RdStep.size(h:RdStep w g B a s w1):w.heap.size≤w1.heap.size:=h.2.size
theorem RdStep.below{b:Nat}(h:RdStep w g B a s w1)(hb:b≤w.heap.size)(hg:b≤g):Below b w w1:=h.2.to_below hb fun q _ e=>e ▸ hg
end
theorem empty_bytes{S:Nat→Prop}{w:World}{a:Option Addr}{m c:Nat}{l:List UInt8}(hl:l=[])(hm:m=0)(hc:c≤9223372036854775807):rBytes.r S w [.slice a m c] l:=by
 subst hl hm
 exact rSl_mk (xs:=[]) rfl (Nat.zero_le _) hc (.inl rfl)
theorem cut_bytes{S:Nat→Prop}{w:World}{a:Option Addr}{B:List UInt8}{c:Nat}(h:rBytes.r S w [.slice a B.length c] B){lo hi:Nat}(h1:lo≤hi)(h2:hi≤B.length):
  ∃A' c',(∀w':World,(Instr.slice 22 (.slice a B.length c) (some (.int .i64 (lo:Int))) (some (.int .i64 (hi:Int))) none).run Tryz.prog w'=.ok (.slice A' (hi-lo) c') w')∧rBytes.r S w [.slice A' (hi-lo) c'] ((B.drop lo).take (hi-lo)):=by
 obtain⟨_,hm,hc,hcm⟩:=sl_len h
 have g1:(0:Int)≤(lo:Int):=by omega
 have g2:(lo:Int)≤(hi:Int):=by omega
 have g3:(hi:Int)≤(c:Int):=by omega
 rcases Nat.lt_or_ge lo hi with hlt | hge
 ·obtain⟨ga,oa,hA,hga,_⟩:=byte_at h (i:=lo) (by omega)
  subst hA
  have hd:=sl_drop h (k:=lo) (by omega)
  rw[Nat.mul_one] at hd
  have hsub:=sl_take hd (k:=hi-lo) (by simp;omega)
  refine⟨some ⟨ga,oa+lo,none⟩,c-lo,fun w'=> ?_,hsub⟩
  have g4:¬c=lo:=by omega
  clear h hd hsub
  go_simp
 ·obtain rfl:lo=hi:=by omega
  by_cases g4:c=lo
  ·refine⟨a,c-lo,fun w'=> ?_,empty_bytes (by simp) (by omega) (by omega)⟩
   clear h
   subst g4
   go_simp
  ·refine⟨a.map (·.add (lo*1)),c-lo,fun w'=> ?_,empty_bytes (by simp) (by omega) (by omega)⟩
   clear h
   go_simp
theorem cut_to{S:Nat→Prop}{w:World}{a:Option Addr}{B:List UInt8}{c:Nat}(h:rBytes.r S w [.slice a B.length c] B){lo:Nat}(h1:lo≤B.length):
  ∃A' c',(∀w':World,(Instr.slice 22 (.slice a B.length c) (some (.int .i64 (lo:Int))) none none).run Tryz.prog w'=.ok (.slice A' (B.length-lo) c') w')∧rBytes.r S w [.slice A' (B.length-lo) c'] (B.drop lo):=by
 obtain⟨_,hm,hc,hcm⟩:=sl_len h
 have g1:(0:Int)≤(lo:Int):=by omega
 have g2:(lo:Int)≤(B.length:Int):=by omega
 rcases Nat.lt_or_ge lo B.length with hlt | hge
 ·obtain⟨ga,oa,hA,hga,_⟩:=byte_at h (i:=lo) (by omega)
  subst hA
  have hd:=sl_drop h (k:=lo) (by omega)
  rw[Nat.mul_one] at hd
  refine⟨some ⟨ga,oa+lo,none⟩,c-lo,fun w'=> ?_,hd⟩
  have g4:¬c=lo:=by omega
  clear h hd
  go_simp
 ·obtain rfl:lo=B.length:=by omega
  by_cases g4:c=B.length
  ·refine⟨a,c-B.length,fun w'=> ?_,empty_bytes (by simp) (by omega) (by omega)⟩
   clear h
   subst g4
   go_simp
  ·refine⟨a.map (·.add (B.length*1)),c-B.length,fun w'=> ?_,empty_bytes (by simp) (by omega) (by omega)⟩
   clear h
   go_simp
theorem fault_good(w:World)(k f:Int):Calls Tryz.prog 95 #[.agg #[.int .i64 k,.int .i64 f]] w fun r w'=>r=.returned (.bool (decide (k=0)))∧Below w.heap.size w w':=by
 go_enter Tryz.func95,Tryz.ntmps95
 go_wp2
 go_ret
 exact⟨by first | rfl | simp,by (repeat (first | exact Below.refl _ _ | assumption | (refine below_alloc ?_ _) | (refine Below.setCell ?_ (by first | omega | (simp;done) | (simp;omega)) _) | (refine Below.drew ?_) | (refine below_drewN ?_ _) | (refine below_then (by assumption) ?_)))⟩
theorem fault_at(w:World)(k f:Int)(hk:k≠0):Calls Tryz.prog 99 #[.int .i64 k,.int .i64 f] w fun r w'=>r=.returned (.agg #[.int .i64 k,.int .i64 f])∧Below w.heap.size w w':=by
 have d1:(k==(0:Int))=false:=by simp[hk]
 go_enter Tryz.func99,Tryz.ntmps99
 go_wp2
 refine bodyPost_ret (v:=.agg #[.int .i64 k,.int .i64 f]) (by simp[results,Tryz.results99,go_sem]) rfl ⟨rfl,by (repeat (first | exact Below.refl _ _ | assumption | (refine below_alloc ?_ _) | (refine Below.setCell ?_ (by first | omega | (simp;done) | (simp;omega)) _) | (refine Below.drew ?_) | (refine below_drewN ?_ _) | (refine below_then (by assumption) ?_)))⟩
theorem rd_new(w:World)(B:List UInt8)(a:Option Addr)(n c:Nat)(hl:rBytes.r (·<w.heap.size) w [.slice a n c] B):
  Calls Tryz.prog 147 #[.slice a n c] w fun r w'=>r=.returned (.pointer (some ⟨w.heap.size,0,none⟩))∧RdAt w' w.heap.size B a ⟨0,0,0⟩∧Below w.heap.size w w':=by
 obtain⟨rfl,hm,hc,hcm⟩:=sl_len hl
 have hD:rBytes.r (fun q=>q<w.heap.size) w [.slice a B.length B.length] B:=by
  obtain⟨a',c',e,h1,h2,h3⟩:=hl
  simp at e
  obtain⟨rfl,rfl⟩:=e
  exact rSl_mk rfl (Nat.le_refl _) (by simp[maxLen];omega) h3
 have HD:=hid hD
 have g1:(B.length:Int)≤(c:Int):=by omega
 clear hl hD
 go_enter Tryz.func147,Tryz.ntmps147
 go_wp2
 go_ret
 refine⟨rfl,⟨by (repeat (first | assumption | exact Blk.newAt _ _ _ (by first | (simp;done) | (simp;omega)) | refine Blk.alloc ?_ _ | refine Blk.drew ?_ | refine Blk.drewN ?_ _ | refine Blk.far ?_ (by first | (simp;done) | (simp;omega)) _)),?_,⟨Nat.zero_le _,fun _=>rfl⟩⟩,by (repeat (first | exact Below.refl _ _ | assumption | (refine below_alloc ?_ _) | (refine Below.setCell ?_ (by first | omega | (simp;done) | (simp;omega)) _) | (refine Below.drew ?_) | (refine below_drewN ?_ _) | (refine below_then (by assumption) ?_)))⟩
 exact rBytes.mono (rBytes.keep HD.out fun q hq=>Below.heap_alloc _ _ q hq) fun q hq=>⟨by simp;omega,by omega⟩
theorem rd_good(w:World){g:Nat}{B:List UInt8}{a:Option Addr}{s:Rs}(h:RdAt w g B a s):Calls Tryz.prog 151 #[.pointer (some ⟨g,0,none⟩)] w fun r w'=>r=.returned (.bool (decide (s.k=0)))∧Below w.heap.size w w':=by
 have c2:w.cell? ⟨g,2,none⟩=some (.int .i64 s.k):=h.blk.cell 2
 have c3:w.cell? ⟨g,3,none⟩=some (.int .i64 s.f):=h.blk.cell 3
 clear h
 go_enter Tryz.func151,Tryz.ntmps151
 go_wp2_with fail
 refine (fault_good w s.k s.f).mono ?_
 rintro r w1 ⟨rfl,hb⟩
 go_wp2
 go_ret
 exact⟨rfl,hb⟩
theorem rd_fail(w:World){g:Nat}{B:List UInt8}{a:Option Addr}{s:Rs}(h:RdAt w g B a s)(k f:Int)(hk:k≠0):Calls Tryz.prog 149 #[.pointer (some ⟨g,0,none⟩),.int .i64 k,.int .i64 f] w fun r w'=>r=.returned (.tuple #[])∧RdStep w g B a (s.fail k f) w':=by
 have HG:=hid (rd_good w h)
 have HH:=hid h
 by_cases h0:s.k=0
 ·have e:s.fail k f=⟨s.p,k,f⟩:=by unfold Rs.fail;rw[if_pos h0]
  have hr:decide (s.k=0)=true:=decide_eq_true h0
  rw[hr] at HG
  rw[e]
  clear h h0 hr e
  go_enter Tryz.func149,Tryz.ntmps149
  go_wp2_with fail
  refine HG.out.mono ?_
  rintro r w1 ⟨rfl,hb⟩
  go_wp2_with fail
  refine (fault_at w1 k f hk).mono ?_
  rintro r w2 ⟨rfl,hb2⟩
  have hb12:=below_then hb2 hb
  have h2:=HH.out.later hb12
  have f2:=h2.blk.free 2
  have f3:=h2.blk.free 3
  have c2:=h2.blk.cell 2
  have c3:=h2.blk.cell 3
  have lt:=h2.blk.lt
  simp at c2 c3
  have H2:=hid h2
  have hst:RdStep w2 g B a ⟨s.p,k,f⟩ ((w2.setCell ⟨g,2,none⟩ (.int .i64 k)).setCell ⟨g,3,none⟩ (.int .i64 f)):=by
   refine⟨⟨(h2.blk.set 2 _).set 3 _,?_,h2.ok.le,fun e=>absurd e hk⟩,Tch.setCell (F:=(·=g)) (Tch.setCell (F:=(·=g)) (Tch.refl _ _) (fun _=>rfl) _) (fun _=>rfl) _⟩
   refine rBytes.mono (rBytes.keep h2.dat fun q hq=> ?_) fun q hq=>⟨by simp[World.setCell];exact hq.1,hq.2⟩
   rw[Below.heap_setCell _ _ _ _ (fun e=>hq.2 e),Below.heap_setCell _ _ _ _ (fun e=>hq.2 e)]
  have HST:=hid (RdStep.trans (Tch.of_later (F:=(·=g)) hb12) hst)
  clear h2 hst
  go_wp2
  go_end0
  exact⟨rfl,HST.out⟩
 ·have e:s.fail k f=s:=by unfold Rs.fail;rw[if_neg h0]
  have hr:decide (s.k=0)=false:=decide_eq_false h0
  rw[hr] at HG
  rw[e]
  clear h h0 hr e
  go_enter Tryz.func149,Tryz.ntmps149
  go_wp2_with fail
  refine HG.out.mono ?_
  rintro r w1 ⟨rfl,hb⟩
  go_wp2
  go_end0
  exact⟨rfl,RdStep.later HH.out hb⟩
theorem rd_fault(w:World){g:Nat}{B:List UInt8}{a:Option Addr}{s:Rs}(h:RdAt w g B a s):Calls Tryz.prog 153 #[.pointer (some ⟨g,0,none⟩)] w fun r w'=>r=.returned (.agg #[.int .i64 s.k,.int .i64 s.f])∧Below w.heap.size w w':=by
 have c2:w.cell? ⟨g,2,none⟩=some (.int .i64 s.k):=h.blk.cell 2
 have c3:w.cell? ⟨g,3,none⟩=some (.int .i64 s.f):=h.blk.cell 3
 have lt:=h.blk.lt
 clear h
 go_enter Tryz.func153,Tryz.ntmps153
 go_wp2
 refine bodyPost_ret (v:=.agg #[.int .i64 s.k,.int .i64 s.f]) (by simp[results,Tryz.results153,go_sem]) rfl ⟨rfl,by (repeat (first | exact Below.refl _ _ | assumption | (refine below_alloc ?_ _) | (refine Below.setCell ?_ (by first | omega | (simp;done) | (simp;omega)) _) | (refine Below.drew ?_) | (refine below_drewN ?_ _) | (refine below_then (by assumption) ?_)))⟩
theorem rd_at(w:World){g:Nat}{B:List UInt8}{a:Option Addr}{s:Rs}(h:RdAt w g B a s):Calls Tryz.prog 180 #[.pointer (some ⟨g,0,none⟩)] w fun r w'=>r=.returned (.int .i64 (s.p:Int))∧w=w':=by
 have c1:w.cell? ⟨g,1,none⟩=some (.int .i64 (s.p:Int)):=h.blk.cell 1
 clear h
 go_enter Tryz.func180,Tryz.ntmps180
 go_wp2
 go_ret
 exact⟨rfl,rfl⟩
theorem rd_left(w:World){g:Nat}{B:List UInt8}{a:Option Addr}{s:Rs}(h:RdAt w g B a s):Calls Tryz.prog 302 #[.pointer (some ⟨g,0,none⟩)] w fun r w'=>r=.returned (.int .i64 ((B.length:Int)-(s.p:Int)))∧Below w.heap.size w w':=by
 have C0:=fun s:Later w=>s.cell (h.blk.cell 0)
 have C1:=fun s:Later w=>s.cell (h.blk.cell 1)
 simp at C0 C1
 have hle:=h.ok.le
 have hle2:=h.len
 clear h
 go_enter Tryz.func302,Tryz.ntmps302
 go_wp2_with fail
 refine wp_region_later (by kernel_rfl) (by kernel_rfl) ?_
 repeat (go_big_quiet_step (fail))
 refine wpQuiet_nil ?_
 rintro W5 ⟨⟨W5',hb5⟩,rfl⟩
 go_wp2
 go_ret
 exact⟨by first | rfl | simp,hb5⟩
theorem rd_skip(w:World){g:Nat}{B:List UInt8}{a:Option Addr}{s:Rs}(h:RdAt w g B a s)(n:Int)(hn:n≤9223372036854775807):Calls Tryz.prog 355 #[.pointer (some ⟨g,0,none⟩),.int .i64 n] w fun r w'=>r=.returned (.bool (s.skip B.length n).1)∧RdStep w g B a (s.skip B.length n).2 w':=by
 have HG:=hid (rd_good w h)
 have HH:=hid h
 have hle:=h.ok.le
 have hle2:=h.len
 by_cases h0:s.k=0
 ·have hr:decide (s.k=0)=true:=decide_eq_true h0
  rw[hr] at HG
  by_cases h1:n<0
  ·have e:s.skip B.length n=(false,⟨s.p,17,s.p⟩):=by unfold Rs.skip;rw[if_pos h0,if_pos h1]
   have ef:s.fail 17 s.p=⟨s.p,17,s.p⟩:=by unfold Rs.fail;rw[if_pos h0]
   have d1:decide (n<(0:Int))=true:=decide_eq_true h1
   rw[e]
   dsimp only
   rw[←ef]
   clear h h0 hr e ef
   go_enter Tryz.func355,Tryz.ntmps355
   go_wp2_with fail
   refine HG.out.mono ?_
   rintro r w1 ⟨rfl,hb⟩
   have hh1:=HH.out.later hb
   have c1:=hh1.blk.cell 1
   simp at c1
   have HF:=hid (rd_fail w1 hh1 17 s.p (by omega))
   clear hh1
   go_wp2_with fail
   refine HF.out.mono ?_
   rintro r w2 ⟨rfl,hst⟩
   have HST:=hid (RdStep.trans (Tch.of_later (F:=(·=g)) hb) hst)
   clear hst
   go_wp2
   go_ret
   exact⟨rfl,HST.out⟩
  ·have d1:decide (n<(0:Int))=false:=decide_eq_false h1
   by_cases h2:(B.length:Int)-s.p<n
   ·have e:s.skip B.length n=(false,⟨s.p,1,B.length⟩):=by unfold Rs.skip;rw[if_pos h0,if_neg h1,if_pos h2]
    have ef:s.fail 1 B.length=⟨s.p,1,B.length⟩:=by unfold Rs.fail;rw[if_pos h0]
    have d2:decide ((B.length:Int)-(s.p:Int)<n)=true:=decide_eq_true h2
    rw[e]
    dsimp only
    rw[←ef]
    clear h h0 hr e ef
    go_enter Tryz.func355,Tryz.ntmps355
    go_wp2_with fail
    refine HG.out.mono ?_
    rintro r w1 ⟨rfl,hb⟩
    have hh1:=HH.out.later hb
    have HL:=hid (rd_left w1 hh1)
    go_wp2_with fail
    refine HL.out.mono ?_
    rintro r w2 ⟨rfl,hb2⟩
    have hb12:=below_then hb2 hb
    have hh2:=HH.out.later hb12
    have c0:=hh2.blk.cell 0
    simp at c0
    have HF:=hid (rd_fail w2 hh2 1 B.length (by omega))
    clear hh1 hh2
    go_wp2_with fail
    refine HF.out.mono ?_
    rintro r w3 ⟨rfl,hst⟩
    have HST:=hid (RdStep.trans (Tch.of_later (F:=(·=g)) hb12) hst)
    clear hst
    go_wp2
    go_ret
    exact⟨rfl,HST.out⟩
   ·have e:s.skip B.length n=(true,⟨s.p+n.toNat,0,0⟩):=by unfold Rs.skip;rw[if_pos h0,if_neg h1,if_neg h2]
    have d2:decide ((B.length:Int)-(s.p:Int)<n)=false:=decide_eq_false h2
    have hz:=h.ok.zero h0
    rw[e]
    obtain⟨m,rfl⟩:∃m:Nat,n=m:=⟨n.toNat,by omega⟩
    have e1:((m:Int)).toNat=m:=by omega
    rw[e1]
    have hle3:s.p+m≤B.length:=by omega
    have HZ:=hid hz;have H0:=hid h0
    clear h h0 hr e e1 hz
    go_enter Tryz.func355,Tryz.ntmps355
    go_wp2_with fail
    refine HG.out.mono ?_
    rintro r w1 ⟨rfl,hb⟩
    have hh1:=HH.out.later hb
    have HL:=hid (rd_left w1 hh1)
    go_wp2_with fail
    refine HL.out.mono ?_
    rintro r w2 ⟨rfl,hb2⟩
    have hb12:=below_then hb2 hb
    have hh2:=HH.out.later hb12
    have c1:=hh2.blk.cell 1
    have f1:=hh2.blk.free 1
    have lt:=hh2.blk.lt
    simp at c1
    have hst:RdStep w2 g B a ⟨s.p+m,0,0⟩ (w2.setCell ⟨g,1,none⟩ (.int .i64 ((s.p:Int)+(m:Int)))):=by
     refine⟨⟨?_,?_,hle3,fun _=>rfl⟩,Tch.setCell (F:=(·=g)) (Tch.refl _ _) (fun _=>rfl) _⟩
     ·have:=hh2.blk.set 1 (.int .i64 ((s.p:Int)+(m:Int)))
      rw[H0.out,HZ.out] at this
      simpa using this
     ·refine rBytes.mono (rBytes.keep hh2.dat fun q hq=> ?_) fun q hq=>⟨by simp[World.setCell];exact hq.1,hq.2⟩
      rw[Below.heap_setCell _ _ _ _ (fun e=>hq.2 e)]
    have HST:=hid (RdStep.trans (Tch.of_later (F:=(·=g)) hb12) hst)
    clear hh1 hh2 hst
    go_wp2
    go_ret
    exact⟨rfl,HST.out⟩
 ·have e:s.skip B.length n=(false,s):=by unfold Rs.skip;rw[if_neg h0]
  have hr:decide (s.k=0)=false:=decide_eq_false h0
  rw[hr] at HG
  rw[e]
  clear h h0 hr e
  go_enter Tryz.func355,Tryz.ntmps355
  go_wp2_with fail
  refine HG.out.mono ?_
  rintro r w1 ⟨rfl,hb⟩
  go_wp2
  go_ret
  exact⟨rfl,RdStep.later HH.out hb⟩
theorem Rs.skip_true{s:Rs}{L:Nat}{n:Int}(h:(s.skip L n).1=true):s.k=0∧0≤n∧n≤(L:Int)-s.p∧(s.skip L n).2=⟨s.p+n.toNat,0,0⟩:=by
 unfold Rs.skip at*
 split at h
 ·rename_i h0
  split at h
  ·simp at h
  ·split at h
   ·simp at h
   ·rename_i h1 h2
    exact⟨h0,by omega,by omega,by rw[if_pos h0,if_neg h1,if_neg h2]⟩
 ·simp at h
theorem Rs.skip_false{s:Rs}{L:Nat}{n:Int}(h:(s.skip L n).1=false):(s.skip L n).2.k≠0∧(s.skip L n).2.p=s.p:=by
 unfold Rs.skip at*
 split at h
 ·rename_i h0
  split at h
  ·rename_i h1
   rw[if_pos h0,if_pos h1];simp
  ·rename_i h1
   split at h
   ·rename_i h2
    rw[if_pos h0,if_neg h1,if_pos h2];simp
   ·simp at h
 ·rename_i h0
  rw[if_neg h0];exact⟨h0,rfl⟩
theorem rd_byte(w:World){g:Nat}{B:List UInt8}{a:Option Addr}{s:Rs}(h:RdAt w g B a s):Calls Tryz.prog 273 #[.pointer (some ⟨g,0,none⟩)] w fun r w'=>r=.returned (.int .u8 ((s.byte B).2.toNat:Int))∧RdStep w g B a (s.byte B).1 w':=by
 have HS:=hid (rd_skip w h 1 (by omega))
 have hle2:=h.len
 unfold Rs.byte
 cases hk:(s.skip B.length 1).1
 ·rw[hk] at HS
  generalize (s.skip B.length 1).2=s1 at*
  clear h hk
  go_enter Tryz.func273,Tryz.ntmps273
  go_wp2_with fail
  refine HS.out.mono ?_
  rintro r w1 ⟨rfl,hst⟩
  have HST:=hid hst
  clear hst
  go_wp2
  go_ret
  exact⟨rfl,HST.out⟩
 ·obtain⟨h0,_,h2,h3⟩:=Rs.skip_true hk
  rw[hk,h3] at HS
  rw[h3]
  have hp:s.p<B.length:=by omega
  have hbd:B.getD s.p 0=B[s.p]:=by simp[hp]
  simp only[if_true]
  rw[hbd]
  generalize hx:B[s.p]=x
  have HX:=hid hx
  rw[show s.p+(1:Int).toNat=s.p+1 by omega] at*
  clear h hk h0 h2 h3 hbd hx
  go_enter Tryz.func273,Tryz.ntmps273
  go_wp2_with fail
  refine HS.out.mono ?_
  rintro r w1 ⟨rfl,hst⟩
  obtain⟨ga,oa,hA,hga,hc⟩:=byte_at hst.1.dat hp
  rw[HX.out] at hc
  subst hA
  have c1:=hst.1.blk.cell 1
  simp at c1
  have C0:=fun s:Later w1=>s.cell (hst.1.blk.cell 0)
  have C1:=fun s:Later w1=>s.cell c1
  have CB:=fun s:Later w1=>s.cell hc
  simp at C0
  have HST:=hid hst
  clear hst hc c1
  have i1:(s.p:Int)<(B.length:Int):=by omega
  have i2:(0:Int)≤(s.p:Int):=by omega
  have hb1:(s.p:Int)≤9223372036854775807:=by omega
  go_wp2_with fail
  have i3:wrap64 (s.p:Int)=s.p:=by simp only[wrap64];omega
  refine wp_region_later (by kernel_rfl) (by kernel_rfl) ?_
  repeat (go_big_quiet_step (fail))
  refine wpQuiet_nil ?_
  clear i3
  rintro W5 ⟨⟨W5',hb5⟩,rfl⟩
  go_wp2
  go_ret
  exact⟨rfl,HST.out.then hb5⟩
theorem rd_take(w:World){g:Nat}{B:List UInt8}{a:Option Addr}{s:Rs}(h:RdAt w g B a s)(n:Int)(hn:n≤9223372036854775807)(hB:B.length≤1000000000000):Calls Tryz.prog 278 #[.pointer (some ⟨g,0,none⟩),.int .i64 n] w fun r w'=>∃v,r=.returned v∧rBytes.r (fun q=>w.heap.size≤q∧q<w'.heap.size) w' [v] (s.take B n).2∧RdStep w g B a (s.take B n).1 w':=by
 have HS:=hid (rd_skip w h n hn)
 unfold Rs.take
 cases hk:(s.skip B.length n).1
 ·rw[hk] at HS
  generalize (s.skip B.length n).2=s1 at*
  clear h hk
  go_enter Tryz.func278,Tryz.ntmps278
  go_wp2_with fail
  refine HS.out.mono ?_
  rintro r w1 ⟨rfl,hst⟩
  have HST:=hid hst
  clear hst
  go_wp2
  go_ret
  exact⟨_,rfl,empty_bytes rfl rfl (by omega),HST.out⟩
 ·obtain⟨h0,h1,h2,h3⟩:=Rs.skip_true hk
  rw[hk,h3] at HS
  rw[h3]
  obtain⟨m,rfl⟩:∃m:Nat,n=m:=⟨n.toNat,by omega⟩
  rw[show ((m:Int)).toNat=m by omega] at*
  obtain⟨i0,hi,hz0,hz1,hz2⟩:=info_parts info8
  have hp:s.p+m≤B.length:=by have:=h.ok.le;omega
  simp only[if_true]
  clear h hk h0 h1 h2 h3
  go_enter Tryz.func278,Tryz.ntmps278
  go_wp2_with fail
  refine HS.out.mono ?_
  rintro r w1 ⟨rfl,hst⟩
  obtain⟨aD,cD,hsl,hsub⟩:=cut_bytes hst.1.dat (lo:=s.p) (hi:=s.p+m) (by omega) hp
  have hlD:((B.drop s.p).take (s.p+m-s.p)).length=m:=by simp;omega
  rw[show s.p+m-s.p=m by omega] at hsl hsub hlD
  generalize hDe:(B.drop s.p).take m=D at*
  have HDE:=hid hDe
  clear hDe
  have hDm:m=D.length:=hlD.symm
  obtain⟨P1,hP1⟩:∃P1:Nat,P1=s.p+m:=⟨_,rfl⟩
  rw[←hP1,show (s.p:Int)=(P1:Int)-(m:Int) by omega] at hsl
  have HSB:=hid (fun (W:World) (hW:Below w1.heap.size w1 W)=>src_bytes (l:=D) (lift (w:=w1) (A:=rBytes) (cs:=[.slice aD D.length cD]) (by rw[←hDm];exact rBytes.mono hsub fun q hq=>hq.1) hW))
  have HONE:=hid (byteCells_one D)
  have c1:=hst.1.blk.cell 1
  have c0:=hst.1.blk.cell 0
  simp at c0
  rw[←hP1] at c1 hst hp
  simp at c1
  have lt:=hst.1.blk.lt
  have HST:=hid hst
  have HDM:=hid hDm
  have hs1:=hst.size
  have HP1:=hid hP1
  have hPm:m≤P1:=by omega
  clear hst hsub hlD hDm hP1
  have hb1:(P1:Int)≤9223372036854775807:=by omega
  go_wp2_with fail
  have j1:IntKind.i64.wrap ((P1:Int)-(m:Int))=(P1:Int)-(m:Int):=IntWalk.i64_in _ (by omega)
  go_region_held3 (fun w'=>w'.cell? ⟨g,0,none⟩=some (.slice a B.length B.length)∧w'.cell? ⟨g,1,none⟩=some (.int .i64 (P1:Int))) (((try dsimp only);refine⟨?_,?_⟩<;>(first | assumption | (go_keep;done))))
   ((go_loud (refine step_append_src (by rfl) _ _ _ (by rfl) w1.heap.size 5 i0 (.int .u8 0) 1 1 Tryz.underlying22 hi hz0 hz1 hz2 rfl (by decide) _ 0 [] (by rfl) (own_empty _ (by simp) (by rfl)) aD m cD (byteCells D) (by rfl) (by rw[HDM.out];exact HSB.out _ (by (repeat (first | exact Below.refl _ _ | assumption | (refine below_alloc ?_ _) | (refine Below.setCell ?_ (by first | omega | (simp;done) | (simp;omega)) _) | (refine Below.drew ?_) | (refine below_drewN ?_ _) | (refine below_then (by assumption) ?_))))) HONE.out (by clear j1;simp only[maxLen];omega) (by clear j1;omega) (by simp) ?_;intro a5 c5 w5 hown5 hgrow5 hat5;rw[Nat.zero_add] at hown5;have k5:Below w1.heap.size w1 w5:=Below.grown (by (repeat (first | exact Below.refl _ _ | assumption | (refine below_alloc ?_ _) | (refine Below.setCell ?_ (by first | omega | (simp;done) | (simp;omega)) _) | (refine Below.drew ?_) | (refine below_drewN ?_ _) | (refine below_then (by assumption) ?_)))) hgrow5 (by simp) (fun g e=>by {have e':some w1.heap.size=some g:=e;injection e' with e';clear j1;omega});have e0:=(k5.cell (p:=⟨g,0,none⟩) lt).trans c0;have e1:=(k5.cell (p:=⟨g,1,none⟩) lt).trans c1;have HK5:=hid k5;have HO5:=hid hown5;clear hown5 hgrow5 hat5 k5)))
  all_goals
   clear j1
   have ho:=HO5.out
   rw[List.nil_append] at ho
   have hA:=own_bytes2 HDM.out ho
   have HA:=hid hA
   clear ho hA
   go_wp2
   go_ret
   refine⟨_,rfl,?_,?_⟩
   ·rw[HDE.out]
    exact rBytes.mono HA.out fun q hq=>⟨by omega,hq.2⟩
   ·rw[←HP1.out]
    exact HST.out.then HK5.out
theorem rd_since(w:World){g:Nat}{B:List UInt8}{a:Option Addr}{s:Rs}(h:RdAt w g B a s)(at_:Nat)(hat:at_≤s.p)(hB:B.length≤1000000000000):Calls Tryz.prog 185 #[.pointer (some ⟨g,0,none⟩),.int .i64 (at_:Int)] w fun r w'=>∃v,r=.returned v∧rBytes.r (fun q=>w.heap.size≤q∧q<w'.heap.size) w' [v] ((B.drop at_).take (s.p-at_))∧Below w.heap.size w w':=by
 obtain⟨i0,hi,hz0,hz1,hz2⟩:=info_parts info8
 have hp:s.p≤B.length:=h.ok.le
 obtain⟨aD,cD,hsl,hsub⟩:=cut_bytes h.dat (lo:=at_) (hi:=s.p) hat hp
 have hlD:((B.drop at_).take (s.p-at_)).length=s.p-at_:=by simp;omega
 obtain⟨m,hm⟩:∃m:Nat,m=s.p-at_:=⟨_,rfl⟩
 rw[←hm] at hsl hsub hlD ⊢
 generalize (B.drop at_).take m=D at*
 have hDm:m=D.length:=hlD.symm
 have HSB:=hid (fun (W:World) (hW:Below w.heap.size w W)=>src_bytes (l:=D) (lift (w:=w) (A:=rBytes) (cs:=[.slice aD D.length cD]) (by rw[←hDm];exact rBytes.mono hsub fun q hq=>hq.1) hW))
 have HONE:=hid (byteCells_one D)
 have c1:=h.blk.cell 1
 have c0:=h.blk.cell 0
 simp at c0 c1
 have lt:=h.blk.lt
 have HDM:=hid hDm
 generalize s.p=P1 at*
 have d1:decide ((at_:Int)<0)=false:=decide_eq_false (by omega)
 have d2:decide ((P1:Int)<(at_:Int))=false:=decide_eq_false (by omega)
 have d3:decide (P1<at_)=false:=decide_eq_false (by omega)
 have hmB:m≤B.length:=by omega
 clear h hsub hlD hDm hm
 go_enter Tryz.func185,Tryz.ntmps185
 go_wp2_with fail
 go_region_held3 (fun w'=>w'.cell? ⟨g,0,none⟩=some (.slice a B.length B.length)∧w'.cell? ⟨g,1,none⟩=some (.int .i64 (P1:Int))) (((try dsimp only);refine⟨?_,?_⟩<;>(first | assumption | (go_keep;done))))
  ((go_loud (refine step_append_src (by rfl) _ _ _ (by rfl) w.heap.size 5 i0 (.int .u8 0) 1 1 Tryz.underlying22 hi hz0 hz1 hz2 rfl (by decide) _ 0 [] (by rfl) (own_empty _ (by simp) (by rfl)) aD m cD (byteCells D) (by rfl) (by rw[HDM.out];exact HSB.out _ (by (repeat (first | exact Below.refl _ _ | assumption | (refine below_alloc ?_ _) | (refine Below.setCell ?_ (by first | omega | (simp;done) | (simp;omega)) _) | (refine Below.drew ?_) | (refine below_drewN ?_ _) | (refine below_then (by assumption) ?_))))) HONE.out (by simp only[maxLen];omega) (by omega) (by simp) ?_;intro a5 c5 w5 hown5 hgrow5 hat5;rw[Nat.zero_add] at hown5;have k5:Below w.heap.size w w5:=Below.grown (by (repeat (first | exact Below.refl _ _ | assumption | (refine below_alloc ?_ _) | (refine Below.setCell ?_ (by first | omega | (simp;done) | (simp;omega)) _) | (refine Below.drew ?_) | (refine below_drewN ?_ _) | (refine below_then (by assumption) ?_)))) hgrow5 (by simp) (fun g e=>by {have e':some w.heap.size=some g:=e;injection e' with e';omega});have e0:=(k5.cell (p:=⟨g,0,none⟩) lt).trans c0;have e1:=(k5.cell (p:=⟨g,1,none⟩) lt).trans c1;have HK5:=hid k5;have HO5:=hid hown5;clear hown5 hgrow5 hat5 k5)))
 all_goals
  have ho:=HO5.out
  rw[List.nil_append] at ho
  have hA:=own_bytes2 HDM.out ho
  have HA:=hid hA
  clear ho hA
  go_wp2
  go_ret
  exact⟨_,rfl,HA.out,HK5.out⟩
theorem f_blk{w:World}{g:Nat}{t:TypeId}{v0 v1:Value}(h:Blk w g t #[v0,v1]):w.cell? ⟨g,0,none⟩=some v0∧w.cell? ⟨g,1,none⟩=some v1∧w.frozen? ⟨g,0,none⟩=false∧w.frozen? ⟨g,1,none⟩=false∧g<w.heap.size:=
 ⟨h.cell 0,h.cell 1,h.free 0,h.free 1,h.lt⟩
def vget:Nat→Nat→List UInt8→Nat × Nat × Int
 | i,x,[]=>(0,i,1)
 | i,x,c::l=>
  if i=9∧1<c.toNat then (0,i+1,5)
  else if 0<i∧c.toNat=0 then (0,i+1,4)
  else if c.toNat<128 then (x+c.toNat*128^i,i+1,0)
  else vget (i+1) (x+c.toNat%128*128^i) l
def Rs.num(B:List UInt8)(s:Rs):Rs × Nat:=
 if s.k=0 then
  let r:=vget 0 0 (B.drop s.p)
  (⟨s.p+r.2.1,r.2.2,if r.2.2=0 then 0 else if r.2.2=1 then B.length else s.p+r.2.1-1⟩,r.1)
 else (s,0)
theorem vget_used:∀(l:List UInt8) (i x:Nat),(vget i x l).2.1≤i+l.length∧i≤(vget i x l).2.1∧((vget i x l).2.2=0∨(vget i x l).2.2=1∨(vget i x l).2.2=4∨(vget i x l).2.2=5)∧((vget i x l).2.2=1→(vget i x l).2.1=i+l.length)∧((vget i x l).2.2≠1→i<(vget i x l).2.1)
 | [],i,x=>by simp[vget]
 | c::l,i,x=>by
  unfold vget
  split
  ·simp
  ·split
   ·simp
   ·split
    ·simp
    ·have:=vget_used l (i+1) (x+c.toNat%128*128^i)
     refine⟨by simp;omega,by omega,this.2.2.1,fun h=>by have:=this.2.2.2.1 h;simp;omega,fun h=>by have:=this.2.2.2.2 h;omega⟩
theorem Rs.num_ok{B:List UInt8}{s:Rs}(h:s.ok B.length):(s.num B).1.ok B.length:=by
 unfold Rs.num
 split
 ·have:=vget_used (B.drop s.p) 0 0
  have hl:(B.drop s.p).length=B.length-s.p:=by simp
  refine⟨by dsimp only;have:=h.le;omega,fun e=>by dsimp only at e ⊢;rw[if_pos e]⟩
 ·exact h
theorem Rs.num_p{B:List UInt8}{s:Rs}:s.p≤(s.num B).1.p:=by
 unfold Rs.num
 split
 ·dsimp only;omega
 ·exact Nat.le_refl _
theorem Rs.num_bad{B:List UInt8}{s:Rs}(h:(s.num B).1.k≠0):(s.num B).2=0:=by
 have key:∀(l:List UInt8) (i x:Nat),(vget i x l).2.2≠0→(vget i x l).1=0:=by
  intro l
  induction l with
  | nil=>intro i x h;rfl
  | cons c l ih=>
   intro i x h
   unfold vget at h ⊢
   split
   ·rfl
   ·rename_i h1
    rw[if_neg h1] at h
    split
    ·rfl
    ·rename_i h2
     rw[if_neg h2] at h
     split
     ·rename_i h3
      rw[if_pos h3] at h;simp at h
     ·rename_i h3
      rw[if_neg h3] at h
      exact ih _ _ h
 unfold Rs.num at*
 split
 ·rename_i h0
  rw[if_pos h0] at h
  exact key _ _ _ h
 ·rfl
theorem vget_small:∀(l:List UInt8) (i x:Nat),i≤9→x<128^i→(vget i x l).1<18446744073709551616
 | [],i,x,_,_=>by simp[vget]
 | c::l,i,x,hi,hx=>by
  unfold vget
  have hc:=c.toNat_lt
  split
  ·simp
  ·rename_i h9
   split
   ·simp
   ·split
    ·rename_i h3
     dsimp only
     by_cases h:i=9
     ·subst h
      have:c.toNat≤1:=by omega
      have h1:c.toNat*128^9≤1*128^9:=Nat.mul_le_mul_right _ this
      have h2:(128:Nat)^9=9223372036854775808:=by decide
      rw[h2] at*
      omega
     ·have h1:c.toNat*128^i≤127*128^i:=Nat.mul_le_mul_right _ (by omega)
      have h2:(128:Nat)^i≤128^8:=Nat.pow_le_pow_right (by omega) (by omega)
      have h3:(128:Nat)^8=72057594037927936:=by decide
      rw[h3] at h2
      omega
    ·rename_i h3
     have h9':i≠9:=fun e=>h9 ⟨e,by omega⟩
     refine vget_small l (i+1) _ (by omega) ?_
     have h1:c.toNat%128*128^i≤127*128^i:=Nat.mul_le_mul_right _ (by omega)
     rw[Nat.pow_succ]
     omega
theorem Rs.num_small{B:List UInt8}{s:Rs}:(s.num B).2<18446744073709551616:=by
 unfold Rs.num
 split
 ·exact vget_small _ 0 0 (by omega) (by simp)
 ·simp
end Go.Proofs.YtmioakocnebceaaGreat
namespace Go.Bs
open Go.RowKit
def manyX(J:Nat→Act→World→Prop)(Q:Exit→Act→World→Prop):Exit→Act→World→Prop
 | .goto l,a,w=>J l a w
 | e,a,w=>Q e a w
section
variable {P:Program} {a:Act} {w:World} {Q:Exit→Act→World→Prop}
theorem wp_scope_many{c:Code}(J:Nat→Act→World→Prop)(μ:Nat→Act→World→Nat)
  (pass:∀l a w,J l a w→∃rest,findLabel c l=some rest∧rest.wp P (manyX (fun l' a' w'=>J l' a' w'∧μ l' a' w'<μ l a w) Q) a w)
  (first:c.wp P (manyX J Q) a w):(Code.scope c).wp P Q a w:=by
 intro b k cs
 have hg:∀{l rest},findLabel c l=some rest→gotoIn l (.inScope c::k)=some (.code rest:: .inScope c::k):=fun hf=>by simp[gotoIn,hf]
 have key:∀n l a w rest,findLabel c l=some rest→μ l a w=n→J l a w→∃e a' w',Q e a' w'∧Arrives P (lone (b.at a (.code rest:: .inScope c::k)) cs w) b k cs e a' w':=by
  intro n
  induction n using Nat.strongRecOn with
  | _ n ih=>
   intro l a w rest hf hn hJ
   obtain⟨rest',hf',hp⟩:=pass l a w hJ
   obtain rfl:rest'=rest:=Option.some.inj (hf'.symm.trans hf)
   obtain⟨e,a₁,w₁,hq,harr⟩:=hp b (.inScope c::k) cs
   cases e with
   | normal=>exact ⟨.normal,a₁,w₁,hq,Steps.trans harr (.one step_inScope)⟩
   | exit id=>exact ⟨.exit id,a₁,w₁,hq,fun k' hk=>harr k' (by simp[exitTo,hk])⟩
   | goto l'=>
    obtain⟨hJ',hlt⟩:=hq
    obtain⟨rest2,hf2,_⟩:=pass l' a₁ w₁ hJ'
    obtain⟨e₂,a₂,w₂,hq₂,harr₂⟩:=ih _ (by omega) l' a₁ w₁ rest2 hf2 rfl hJ'
    exact⟨e₂,a₂,w₂,hq₂,.of_steps (harr _ (hg hf2)) harr₂⟩
   | ret=>exact ⟨_,a₁,w₁,hq,harr⟩
   | panic ch=>exact ⟨_,a₁,w₁,hq,harr⟩
   | outgrown=>exact ⟨_,a₁,w₁,hq,harr⟩
 obtain⟨e,a₁,w₁,hq,harr⟩:=first b (.inScope c::k) cs
 cases e with
 | normal=>exact ⟨.normal,a₁,w₁,hq,.head step_scope (Steps.trans harr (.one step_inScope))⟩
 | exit id=>exact ⟨.exit id,a₁,w₁,hq,fun k' hk=> .head step_scope (harr k' (by simp[exitTo,hk]))⟩
 | goto l'=>
  obtain⟨rest2,hf2,_⟩:=pass l' a₁ w₁ hq
  obtain⟨e₂,a₂,w₂,hq₂,harr₂⟩:=key _ l' a₁ w₁ rest2 hf2 rfl hq
  exact⟨e₂,a₂,w₂,hq₂,.of_steps (.head step_scope (harr _ (hg hf2))) harr₂⟩
 | ret=>exact ⟨_,a₁,w₁,hq,.of_steps (.one step_scope) harr⟩
 | panic ch=>exact ⟨_,a₁,w₁,hq,.of_steps (.one step_scope) harr⟩
 | outgrown=>exact ⟨_,a₁,w₁,hq,.of_steps (.one step_scope) harr⟩
theorem wp_skip_seq{c:Code}(h:c.wp P Q a w):(Code.skip.seq c).wp P Q a w:=wp_seq (wp_skip h)
theorem wp_scope_entry{c rest:Code}(l:Nat)(J:Act→World→Prop)(μ:Act→World→Nat)(hf:findLabel c l=some (Code.skip.seq rest))
  (pass:∀a w,J a w→rest.wp P (Exit.jump l (fun a' w'=>J a' w'∧μ a' w'<μ a w) Q) a w)
  (first:∀K:Exit→Act→World→Prop,(∀a w,J a w→rest.wp P K a w)→c.wp P K a w):(Code.scope c).wp P Q a w:=
 wp_scope_jumps l J μ hf (first _ fun a w h=>wp_mono (pass a w h) fun e a' w' hq=>by
  cases e<;>first | exact hq | exact⟨hq.1,hq.2.1⟩) fun a w h=>wp_skip_seq (pass a w h)
theorem wp_scope_two{c rest rest2:Code}(l m:Nat)(hlm:l≠m)(J J2:Act→World→Prop)(μ:Act→World→Nat)(hf:findLabel c l=some (Code.skip.seq rest))(hf2:findLabel c m=some (Code.skip.seq rest2))
  (pass:∀a w,J a w→rest.wp P (manyX (fun l' a' w'=>(l'=l∧J a' w'∧μ a' w'<μ a w)∨(l'=m∧J2 a' w')) Q) a w)
  (last:∀a w,J2 a w→rest2.wp P (manyX (fun _ _ _=>False) Q) a w)
  (first:∀K:Exit→Act→World→Prop,(∀a w,J a w→rest.wp P K a w)→c.wp P K a w):(Code.scope c).wp P Q a w:=by
 refine wp_scope_many (fun l' a w=>(l'=l∧J a w)∨(l'=m∧J2 a w)) (fun l' a w=>if l'=l then μ a w+1 else 0) ?_ ?_
 ·rintro l' a w (⟨rfl,h⟩ | ⟨rfl,h⟩)
  ·refine⟨_,hf,wp_skip_seq (wp_mono (pass a w h) fun e a' w' hq=> ?_)⟩
   cases e<;>first | exact hq | skip
   rcases hq with ⟨rfl,h1,h2⟩ | ⟨rfl,h1⟩
   ·exact⟨.inl ⟨rfl,h1⟩,by simp;omega⟩
   ·exact⟨.inr ⟨rfl,h1⟩,by simp[Ne.symm hlm]⟩
  ·refine⟨_,hf2,wp_skip_seq (wp_mono (last a w h) fun e a' w' hq=> ?_)⟩
   cases e<;>first | exact hq | exact hq.elim
 ·refine first _ fun a w h=>wp_mono (pass a w h) fun e a' w' hq=> ?_
  cases e<;>first | exact hq | skip
  rcases hq with ⟨rfl,h1,_⟩ | ⟨rfl,h1⟩
  ·exact .inl ⟨rfl,h1⟩
  ·exact .inr ⟨rfl,h1⟩
end
end Go.Bs
namespace Go.Proofs.YtmioakocnebceaaGreat
open Go.RowKit Go.Bs Go.Maps
def vfin(L p i:Nat)(r:Nat × Nat × Int):Rs × Nat:=(⟨p+r.2.1-i,r.2.2,if r.2.2=0 then 0 else if r.2.2=1 then L else ((p+r.2.1-i:Nat):Int)-1⟩,r.1)
def vgo(B:List UInt8)(i X:Nat)(s:Rs):Rs × Nat:=if s.k=0 then vfin B.length s.p i (vget i X (B.drop s.p)) else (s,0)
theorem vgo_num(B:List UInt8)(s:Rs):vgo B 0 0 s=s.num B:=by
 unfold vgo Rs.num vfin
 simp
theorem vget_cons(i x:Nat)(c:UInt8)(l:List UInt8):vget i x (c::l)=if i=9∧1<c.toNat then (0,i+1,5) else if 0<i∧c.toNat=0 then (0,i+1,4) else if c.toNat<128 then (x+c.toNat*128^i,i+1,0) else vget (i+1) (x+c.toNat%128*128^i) l:=by rw[vget]
theorem vgo_step{B:List UInt8}{s:Rs}(hs:s.ok B.length)(i X:Nat):vgo B i X s=
  if (s.byte B).1.k=0 then
   (if i=9∧1<(s.byte B).2.toNat then ((s.byte B).1.fail 5 ((s.byte B).1.p-1),0)
   else if 0<i∧(s.byte B).2.toNat=0 then ((s.byte B).1.fail 4 ((s.byte B).1.p-1),0)
   else if (s.byte B).2.toNat<128 then ((s.byte B).1,X+(s.byte B).2.toNat*128^i)
   else vgo B (i+1) (X+(s.byte B).2.toNat%128*128^i) (s.byte B).1)
  else ((s.byte B).1,0):=by
 have hle:=hs.le
 unfold Rs.byte
 by_cases h0:s.k=0
 ·by_cases h1:s.p<B.length
  ·have e:s.skip B.length 1=(true,⟨s.p+1,0,0⟩):=by
    unfold Rs.skip;rw[if_pos h0,if_neg (by omega),if_neg (by omega)];simp
   rw[e]
   have hd:B.drop s.p=B.getD s.p 0::B.drop (s.p+1):=by
    rw[List.drop_eq_getElem_cons h1];simp[h1]
   simp only[if_true]
   unfold vgo
   rw[if_pos h0,hd,vget_cons]
   have hu:=(vget_used (B.drop (s.p+1)) (i+1) (X+(B.getD s.p 0).toNat%128*128^i)).2.1
   have e1:s.p+(i+1)-i=s.p+1:=by omega
   split
   ·simp[vfin,Rs.fail,e1]
   ·split
    ·simp[vfin,Rs.fail,e1]
    ·split
     ·simp[vfin,e1]
     ·generalize vget (i+1) (X+(B.getD s.p 0).toNat%128*128^i) (B.drop (s.p+1))=r at*
      simp only[if_true,vfin]
      rw[show s.p+r.2.1-i=s.p+1+r.2.1-(i+1) by omega]
  ·have e:s.skip B.length 1=(false,⟨s.p,1,B.length⟩):=by
    unfold Rs.skip;rw[if_pos h0,if_neg (by omega),if_pos (by omega)]
   rw[e]
   have hd:B.drop s.p=[]:=List.drop_eq_nil_of_le (by omega)
   unfold vgo
   rw[if_pos h0,hd]
   simp[vget,vfin]
 ·have e:s.skip B.length 1=(false,s):=by unfold Rs.skip;rw[if_neg h0]
  rw[e]
  unfold vgo
  rw[if_neg h0]
  simp[h0]
theorem or_digit{i X m:Nat}(hX:X<128^i)(hx:X<18446744073709551616)(hm:m*128^i<18446744073709551616):bits .or .u64 (X:Int) ((m*128^i:Nat):Int)=((X+m*128^i:Nat):Int):=by
 rw[bits_or_u64_nat _ _ hx hm]
 have h1:(128:Nat)^i=2^(7*i):=by rw[Nat.pow_mul]
 rw[h1] at hX ⊢
 rw[Nat.or_comm,←Nat.shiftLeft_eq,←Nat.shiftLeft_add_eq_or_of_lt hX,Nat.add_comm]
theorem or_digit2{i X c:Nat}(hX:X<128^i)(hx:X<18446744073709551616)(hm:c%128*128^i<18446744073709551616):bits .or .u64 (X:Int) (IntKind.u64.wrap ((c:Int)%128*2^(7*i)))=((X+c%128*128^i:Nat):Int):=by
 have e:(c:Int)%128*2^(7*i)=((c%128*128^i:Nat):Int):=by
  rw[show (128:Nat)^i=2^(7*i) by rw[Nat.pow_mul]]
  simp
 rw[e,IntKind.wrap_u64,Int.emod_eq_of_lt (by omega) (by omega)]
 exact or_digit hX hx hm
theorem digit_next{i X c:Nat}(hX:X<128^i):X+c%128*128^i<128^(i+1):=by
 have h1:c%128*128^i≤127*128^i:=Nat.mul_le_mul_right _ (by omega)
 rw[Nat.pow_succ]
 omega
theorem digit_fits{i X c:Nat}(hi:i≤9)(hX:X<128^i)(h:i=9→c≤1):c%128*128^i<18446744073709551616∧X<18446744073709551616:=by
 by_cases h9:i=9
 ·subst h9
  have h1:(128:Nat)^9=9223372036854775808:=by decide
  rw[h1] at*
  have:=h rfl
  have h2:c%128*9223372036854775808≤1*9223372036854775808:=Nat.mul_le_mul_right _ (by omega)
  omega
 ·have h1:(128:Nat)^i≤128^8:=Nat.pow_le_pow_right (by omega) (by omega)
  have h3:(128:Nat)^8=72057594037927936:=by decide
  have h2:c%128*128^i≤127*128^i:=Nat.mul_le_mul_right _ (by omega)
  omega
theorem byte_p{B:List UInt8}{s:Rs}{q:Nat}(hp:s.p=q)(h:(s.byte B).1.k=0):(s.byte B).1.p=q+1:=by
 have h':(s.skip B.length 1).2.k=0:=h
 cases hk:(s.skip B.length 1).1
 ·exact absurd h' (Rs.skip_false hk).1
 ·have:=(Rs.skip_true hk).2.2.2
  show (s.skip B.length 1).2.p=_
  rw[this,hp];rfl
theorem varint_read(w:World){g:Nat}{B:List UInt8}{a:Option Addr}{s:Rs}(h:RdAt w g B a s)(hB:B.length≤1000000000000):Calls Tryz.prog 300 #[.pointer (some ⟨g,0,none⟩)] w fun r w'=>r=.returned (.int .u64 ((s.num B).2:Int))∧RdStep w g B a (s.num B).1 w':=by
 have HH:=hid h
 have HA:=hid (rd_at w h)
 have hpL:=h.ok.le
 clear h
 go_enter Tryz.func300,Tryz.ntmps300
 go_wp2
 refine wp_scope_entry 0 (fun a' W=>∃(i X:Nat) (s':Rs) (rest:Hid (vgo B i X s'=s.num B)) (u1 u4 u7 u8 u9 u10 u11 u12 u13 u14 u15 u16 u17 u18 u19 u20 u21 u22 u23 u24 u25 u26 u27 u28 u29 u30 u31 u32 u33 u34 u35 u36 u37 u38 u39 u40 u41 u42 u43 u44 u45 u46 u47 u48 u49 u50 u51 u52 u53:Value),RdStep w g B a s' W∧s'.p=s.p+i∧i≤9∧X<128^i∧a'={tmps:=#[.pointer (some ⟨g,0,none⟩),u1,.int .u64 0,.int .u64 (X:Int),u4,.int .i64 (7*(i:Int)),.int .i64 (s.p:Int),u7,u8,u9,u10,u11,u12,u13,u14,u15,u16,u17,u18,u19,u20,u21,u22,u23,u24,u25,u26,u27,u28,u29,u30,u31,u32,u33,u34,u35,u36,u37,u38,u39,u40,u41,u42,u43,u44,u45,u46,u47,u48,u49,u50,u51,u52,u53],defers:=[]}) (fun a' _=>70-(intOf (a'.tmps.getD 5 undef)).toNat) rfl ?_ ?_
 ·rintro a' W ⟨i,X,s',hrest,u1,u4,u7,u8,u9,u10,u11,u12,u13,u14,u15,u16,u17,u18,u19,u20,u21,u22,u23,u24,u25,u26,u27,u28,u29,u30,u31,u32,u33,u34,u35,u36,u37,u38,u39,u40,u41,u42,u43,u44,u45,u46,u47,u48,u49,u50,u51,u52,u53,hst,hp,hi,hX,rfl⟩
  have hk:=hst.1
  have hB1:=hid (rd_byte W hk)
  have hvs:=hid (vgo_step hk.ok i X)
  have hbok:=Rs.byte_ok hk.ok
  have HBP:Hid ((s'.byte B).1.k=0→(s'.byte B).1.p=s.p+i+1):=hid (byte_p hp)
  rw[hrest.out] at hvs
  clear hrest
  generalize s'.byte B=b at*
  obtain⟨b1,c⟩:=b
  dsimp only at hB1 hvs hbok
  go_wp2_with fail
  refine hB1.out.mono ?_
  rintro r w1 ⟨rfl,hst1⟩
  have hstW:=hst
  by_cases hbk:b1.k=0
  ·have hG:=rd_good w1 hst1.1
   rw[decide_eq_true hbk] at hG
   have HG:=hid hG
   have HK:=hid hbk
   have hc:=c.toNat_lt
   have hbge:1≤b1.p:=by have:=HBP.out hbk;omega
   have hpl:=hbok.le
   clear hG hbk
   go_wp2_with fail
   refine HG.out.mono ?_
   rintro r w2 ⟨rfl,hb2⟩
   by_cases h9:i=9
   ·have d1:((7*(i:Int))==63)=true:=by rw[h9];rfl
    by_cases hc1:1<c.toNat
    ·have d2:decide ((1:Int)<(c.toNat:Int))=true:=decide_eq_true (by omega)
     have HF:=hid (rd_fail w2 (hst1.1.later hb2) 5 ((b1.p:Int)-1) (by omega))
     have HAT:=hid (rd_at w2 (hst1.1.later hb2))
     replace hvs:=hvs.out
     rw[if_pos HK.out,if_pos ⟨h9,hc1⟩] at hvs
     have HN:=hid hvs
     clear hvs
     (try clear h9);(try clear hc0);(try clear hc1);(try clear hi0);(try clear hc7)
     have HST1:=hid hst1
     clear hst1 hst hk hbok
     go_wp2_with fail
     refine HAT.out.mono ?_
     rintro r w2' ⟨rfl,rfl⟩
     go_wp2_with fail
     refine HF.out.mono ?_
     rintro r w3 ⟨rfl,hst3⟩
     have HST3:=hid (RdStep.trans HST1.out.2 (RdStep.trans (Tch.of_later (F:=(·=g)) hb2) hst3))
     have HSTW:=hid hstW
     clear hst3 hstW
     go_wp2
     simp only[Exit.jump]
     go_ret
     rw[HN.out];exact⟨rfl,RdStep.trans HSTW.out.2 HST3.out⟩
    ·have d2:decide ((1:Int)<(c.toNat:Int))=false:=decide_eq_false (by omega)
     have d5:decide ((128:Int)≤(c.toNat:Int))=false:=decide_eq_false (by omega)
     by_cases hc0:c.toNat=0
     ·have d3:((c.toNat:Int)==0)=true:=by rw[hc0];rfl
      have d4:decide ((s.p:Int)<(b1.p:Int)-1)=true:=decide_eq_true (by have:=HBP.out HK.out;omega)
      have HF:=hid (rd_fail w2 (hst1.1.later hb2) 4 ((b1.p:Int)-1) (by omega))
      have HAT:=hid (rd_at w2 (hst1.1.later hb2))
      replace hvs:=hvs.out
      rw[if_pos HK.out,if_neg (fun e=>hc1 e.2),if_pos ⟨by omega,hc0⟩] at hvs
      have HN:=hid hvs
      clear hvs
      (try clear h9);(try clear hc0);(try clear hc1);(try clear hi0);(try clear hc7)
      have HST1:=hid hst1
      clear hst1 hst hk hbok
      go_wp2_with fail
      refine HAT.out.mono ?_
      rintro r w2' ⟨rfl,rfl⟩
      go_wp2_with fail
      refine HAT.out.mono ?_
      rintro r w2' ⟨rfl,rfl⟩
      go_wp2_with fail
      refine HF.out.mono ?_
      rintro r w3 ⟨rfl,hst3⟩
      have HST3:=hid (RdStep.trans HST1.out.2 (RdStep.trans (Tch.of_later (F:=(·=g)) hb2) hst3))
      have HSTW:=hid hstW
      clear hst3 hstW
      go_wp2
      simp only[Exit.jump]
      go_ret
      rw[HN.out];exact⟨rfl,RdStep.trans HSTW.out.2 HST3.out⟩
     ·have d3:((c.toNat:Int)==0)=false:=by simp[hc0]
      have HAT:=hid (rd_at w2 (hst1.1.later hb2))
      replace hvs:=hvs.out
      rw[if_pos HK.out,if_neg (fun e=>hc1 e.2),if_neg (fun e=>hc0 e.2),if_pos (by omega)] at hvs
      have HN:=hid hvs
      clear hvs
      have HC7:Hid (c.toNat%128=c.toNat):=hid (Nat.mod_eq_of_lt (by omega))
      have HSTW:=hid hstW
      have hmul:c.toNat%128*128^i<18446744073709551616∧X<18446744073709551616:=digit_fits hi hX (by omega)
      have E1:=hid (or_digit2 (c:=c.toNat) hX hmul.2 hmul.1)
      clear hmul
      clear hstW;(try clear h9);(try clear hc0);(try clear hc1);(try clear hi0);(try clear hc7)
      have HST1:=hid hst1
      clear hst1 hst hk hbok
      go_wp2_with fail
      go_wp2
      simp only[Exit.jump]
      go_ret
      rw[HN.out]
      refine⟨?_,RdStep.trans HSTW.out.2 (HST1.out.then hb2)⟩
      show Ending.returned (Value.int .u64 _)=_
      rw[E1.out,HC7.out]
   ·have d1:((7*(i:Int))==63)=false:=by rw[beq_eq_false_iff_ne];omega
    by_cases hc0:c.toNat=0
    ·have d3:((c.toNat:Int)==0)=true:=by rw[hc0];rfl
     by_cases hi0:0<i
     ·have d4:decide ((s.p:Int)<(b1.p:Int)-1)=true:=decide_eq_true (by have:=HBP.out HK.out;omega)
      have HF:=hid (rd_fail w2 (hst1.1.later hb2) 4 ((b1.p:Int)-1) (by omega))
      have HAT:=hid (rd_at w2 (hst1.1.later hb2))
      replace hvs:=hvs.out
      rw[if_pos HK.out,if_neg (fun e=>h9 e.1),if_pos ⟨hi0,hc0⟩] at hvs
      have HN:=hid hvs
      clear hvs
      (try clear h9);(try clear hc0);(try clear hc1);(try clear hi0);(try clear hc7)
      have HST1:=hid hst1
      clear hst1 hst hk hbok
      go_wp2_with fail
      refine HAT.out.mono ?_
      rintro r w2' ⟨rfl,rfl⟩
      go_wp2_with fail
      refine HAT.out.mono ?_
      rintro r w2' ⟨rfl,rfl⟩
      go_wp2_with fail
      refine HF.out.mono ?_
      rintro r w3 ⟨rfl,hst3⟩
      have HST3:=hid (RdStep.trans HST1.out.2 (RdStep.trans (Tch.of_later (F:=(·=g)) hb2) hst3))
      have HSTW:=hid hstW
      clear hst3 hstW
      go_wp2
      simp only[Exit.jump]
      go_ret
      rw[HN.out];exact⟨rfl,RdStep.trans HSTW.out.2 HST3.out⟩
     ·have d4:decide ((s.p:Int)<(b1.p:Int)-1)=false:=decide_eq_false (by have:=HBP.out HK.out;omega)
      have d5:decide ((128:Int)≤(c.toNat:Int))=false:=decide_eq_false (by omega)
      have HAT:=hid (rd_at w2 (hst1.1.later hb2))
      replace hvs:=hvs.out
      rw[if_pos HK.out,if_neg (fun e=>h9 e.1),if_neg (fun e=>hi0 e.1),if_pos (by omega)] at hvs
      have HN:=hid hvs
      clear hvs
      have HC7:Hid (c.toNat%128=c.toNat):=hid (Nat.mod_eq_of_lt (by omega))
      have HSTW:=hid hstW
      have hmul:c.toNat%128*128^i<18446744073709551616∧X<18446744073709551616:=digit_fits hi hX (by omega)
      have E1:=hid (or_digit2 (c:=c.toNat) hX hmul.2 hmul.1)
      clear hmul
      clear hstW;(try clear h9);(try clear hc0);(try clear hc1);(try clear hi0);(try clear hc7)
      have HST1:=hid hst1
      clear hst1 hst hk hbok
      go_wp2_with fail
      refine HAT.out.mono ?_
      rintro r w2' ⟨rfl,rfl⟩
      go_wp2_with fail
      go_wp2
      simp only[Exit.jump]
      go_ret
      rw[HN.out]
      refine⟨?_,RdStep.trans HSTW.out.2 (HST1.out.then hb2)⟩
      show Ending.returned (Value.int .u64 _)=_
      rw[E1.out,HC7.out]
    ·have d3:((c.toNat:Int)==0)=false:=by simp[hc0]
     by_cases hc7:c.toNat<128
     ·have d5:decide ((128:Int)≤(c.toNat:Int))=false:=decide_eq_false (by omega)
      have HAT:=hid (rd_at w2 (hst1.1.later hb2))
      replace hvs:=hvs.out
      rw[if_pos HK.out,if_neg (fun e=>h9 e.1),if_neg (fun e=>hc0 e.2),if_pos hc7] at hvs
      have HN:=hid hvs
      clear hvs
      have HC7:Hid (c.toNat%128=c.toNat):=hid (Nat.mod_eq_of_lt (by omega))
      have HSTW:=hid hstW
      have hmul:c.toNat%128*128^i<18446744073709551616∧X<18446744073709551616:=digit_fits hi hX (by omega)
      have E1:=hid (or_digit2 (c:=c.toNat) hX hmul.2 hmul.1)
      clear hmul
      clear hstW;(try clear h9);(try clear hc0);(try clear hc1);(try clear hi0);(try clear hc7)
      have HST1:=hid hst1
      clear hst1 hst hk hbok
      go_wp2_with fail
      go_wp2
      simp only[Exit.jump]
      go_ret
      rw[HN.out]
      refine⟨?_,RdStep.trans HSTW.out.2 (HST1.out.then hb2)⟩
      show Ending.returned (Value.int .u64 _)=_
      rw[E1.out,HC7.out]
     ·have d5:decide ((128:Int)≤(c.toNat:Int))=true:=decide_eq_true (by omega)
      have HAT:=hid (rd_at w2 (hst1.1.later hb2))
      replace hvs:=hvs.out
      rw[if_pos HK.out,if_neg (fun e=>h9 e.1),if_neg (fun e=>hc0 e.2),if_neg hc7] at hvs
      have HN:=hid hvs
      clear hvs
      have hi8:i+1≤9:=by omega
      have HX8:=hid (digit_next (c:=c.toNat) hX)
      have HSTW:=hid hstW
      have hmul:c.toNat%128*128^i<18446744073709551616∧X<18446744073709551616:=digit_fits hi hX (fun e=>absurd e h9)
      have E1:=hid (or_digit2 (c:=c.toNat) hX hmul.2 hmul.1)
      clear hmul
      clear hstW;(try clear h9);(try clear hc0);(try clear hc1);(try clear hi0);(try clear hc7)
      have HST1:=hid hst1
      clear hst1 hst hk hbok
      go_wp2_with fail
      go_step3
      rw[E1.out,show 7*(i:Int)+7=7*((i+1:Nat):Int) by omega]
      refine⟨rfl,⟨i+1,_,b1,hid HN.out.symm,_,_,_,_,_,_,_,_,_,_,_,_,_,_,_,_,_,_,_,_,_,_,_,_,_,_,_,_,_,_,_,_,_,_,_,_,_,_,_,_,_,_,_,_,_,_,_,_,_,RdStep.trans HSTW.out.2 (HST1.out.then hb2),HBP.out HK.out,hi8,HX8.out,rfl⟩,?_⟩
      simp[intOf]
      omega
  ·have hG:=rd_good w1 hst1.1
   rw[decide_eq_false hbk] at hG
   have HG:=hid hG
   replace hvs:=hvs.out
   rw[if_neg hbk] at hvs
   have HN:=hid hvs
   clear hvs
   have HST1:=hid hst1
   have HSTW:=hid hstW
   clear hG hbk hst1 hst hk hbok hstW
   go_wp2_with fail
   refine HG.out.mono ?_
   rintro r w2 ⟨rfl,hb2⟩
   go_wp2
   simp only[Exit.jump]
   go_ret
   rw[HN.out];exact⟨rfl,RdStep.trans HSTW.out.2 (HST1.out.then hb2)⟩
 ·intro K hK
  go_wp2_with fail
  refine HA.out.mono ?_
  rintro r w1 ⟨rfl,rfl⟩
  go_wp2
  go_step3
  rename_i hkk
  exact hkk _ _ (hK _ _ ⟨0,0,s,hid (vgo_num B s),_,_,_,_,_,_,_,_,_,_,_,_,_,_,_,_,_,_,_,_,_,_,_,_,_,_,_,_,_,_,_,_,_,_,_,_,_,_,_,_,_,_,_,_,_,_,_,_,_,RdStep.refl HH.out,by omega,by omega,by simp,rfl⟩)
def Rs.most(B:List UInt8)(s:Rs)(m:Nat):Rs × Nat:=if m<(s.num B).2 then ((s.num B).1.fail 2 s.p,0) else s.num B
def Rs.int(B:List UInt8)(s:Rs)(m:Int):Rs × Nat:=if 0≤m then s.most B m.toNat else ((s.num B).1.fail 2 s.p,0)
def Rs.head(B:List UInt8)(s:Rs):Rs × Bool × Nat:=
 if (s.num B).1.k=0 then
  (if (s.num B).2%2=1 then (if 1048572<(s.num B).2/2 then ((s.num B).1.fail 2 s.p,false,0) else ((s.num B).1,true,(s.num B).2/2+4))
  else (if 1048575<(s.num B).2/2 then ((s.num B).1.fail 2 s.p,false,0) else ((s.num B).1,false,(s.num B).2/2+1)))
 else ((s.num B).1,false,0)
def Rs.offset(B:List UInt8)(s:Rs):Rs × Nat:=
 let t:=if 65536≤(s.num B).2 then (s.num B).1.fail 10 s.p else (s.num B).1
 (t,if t.k=0 then (s.num B).2+1 else 0)
theorem Rs.most_ok{B:List UInt8}{s:Rs}(h:s.ok B.length){m:Nat}:(s.most B m).1.ok B.length:=by
 unfold Rs.most;split
 ·exact Rs.fail_ok (Rs.num_ok h) (by omega)
 ·exact Rs.num_ok h
theorem Rs.int_ok{B:List UInt8}{s:Rs}(h:s.ok B.length){m:Int}:(s.int B m).1.ok B.length:=by
 unfold Rs.int;split
 ·exact Rs.most_ok h
 ·exact Rs.fail_ok (Rs.num_ok h) (by omega)
theorem Rs.head_ok{B:List UInt8}{s:Rs}(h:s.ok B.length):(s.head B).1.ok B.length:=by
 unfold Rs.head;split
 ·split
  ·split
   ·exact Rs.fail_ok (Rs.num_ok h) (by omega)
   ·exact Rs.num_ok h
  ·split
   ·exact Rs.fail_ok (Rs.num_ok h) (by omega)
   ·exact Rs.num_ok h
 ·exact Rs.num_ok h
theorem Rs.offset_ok{B:List UInt8}{s:Rs}(h:s.ok B.length):(s.offset B).1.ok B.length:=by
 unfold Rs.offset;dsimp only;split
 ·exact Rs.fail_ok (Rs.num_ok h) (by omega)
 ·exact Rs.num_ok h
theorem Rs.int_le{B:List UInt8}{s:Rs}{m:Int}:(s.int B m).2≤m.toNat:=by
 unfold Rs.int Rs.most;split
 ·split
  ·simp
  ·omega
 ·simp
theorem varint_most(w:World){g:Nat}{B:List UInt8}{a:Option Addr}{s:Rs}(h:RdAt w g B a s)(hB:B.length≤1000000000000)(m:Nat):Calls Tryz.prog 303 #[.pointer (some ⟨g,0,none⟩),.int .u64 (m:Int)] w fun r w'=>r=.returned (.int .u64 ((s.most B m).2:Int))∧RdStep w g B a (s.most B m).1 w':=by
 have HA:=hid (rd_at w h)
 have HN:=hid (varint_read w h hB)
 unfold Rs.most
 generalize s.num B=N at*
 obtain⟨s1,x⟩:=N
 dsimp only at*
 clear h
 by_cases hm:m<x
 ·have d1:decide (m<x)=true:=decide_eq_true hm
  have d1':decide ((m:Int)<(x:Int))=true:=decide_eq_true (by omega)
  rw[if_pos hm]
  clear hm
  go_enter Tryz.func303,Tryz.ntmps303
  go_wp2_with fail
  refine HA.out.mono ?_
  rintro r w' ⟨rfl,rfl⟩
  go_wp2_with fail
  refine HN.out.mono ?_
  rintro r w1 ⟨rfl,hst⟩
  have HF:=hid (rd_fail w1 hst.1 2 s.p (by omega))
  have HST:=hid hst
  clear hst
  go_wp2_with fail
  refine HF.out.mono ?_
  rintro r w2 ⟨rfl,hst2⟩
  have HST2:=hid hst2
  clear hst2
  go_wp2
  go_ret
  exact⟨rfl,RdStep.trans HST.out.2 HST2.out⟩
 ·have d1:decide (m<x)=false:=decide_eq_false hm
  have d1':decide ((m:Int)<(x:Int))=false:=decide_eq_false (by omega)
  rw[if_neg hm]
  clear hm
  go_enter Tryz.func303,Tryz.ntmps303
  go_wp2_with fail
  refine HA.out.mono ?_
  rintro r w' ⟨rfl,rfl⟩
  go_wp2_with fail
  refine HN.out.mono ?_
  rintro r w1 ⟨rfl,hst⟩
  have HST:=hid hst
  clear hst
  go_wp2
  go_ret
  exact⟨rfl,HST.out⟩
theorem varint_int(w:World){g:Nat}{B:List UInt8}{a:Option Addr}{s:Rs}(h:RdAt w g B a s)(hB:B.length≤1000000000000)(m:Int)(hm: -9223372036854775808≤m∧m≤9223372036854775807):Calls Tryz.prog 189 #[.pointer (some ⟨g,0,none⟩),.int .i64 m] w fun r w'=>r=.returned (.int .i64 ((s.int B m).2:Int))∧RdStep w g B a (s.int B m).1 w':=by
 by_cases h0:0≤m
 ·obtain⟨n,rfl⟩:∃n:Nat,m=n:=⟨m.toNat,by omega⟩
  have HM:=hid (varint_most w h hB n)
  have hle:(s.int B n).2≤9223372036854775807:=by have:=Rs.int_le (B:=B) (s:=s) (m:=(n:Int));omega
  have e:s.int B n=s.most B n:=by unfold Rs.int;rw[if_pos h0];rfl
  rw[e] at hle ⊢
  have d1:decide ((0:Int)≤(n:Int))=true:=decide_eq_true h0
  generalize s.most B n=N at*
  obtain⟨s1,x⟩:=N
  dsimp only at*
  clear h e
  go_enter Tryz.func189,Tryz.ntmps189
  go_wp2_with fail
  refine HM.out.mono ?_
  rintro r w1 ⟨rfl,hst⟩
  have HST:=hid hst
  clear hst
  go_wp2
  go_ret
  exact⟨rfl,HST.out⟩
 ·have HA:=hid (rd_at w h)
  have HN:=hid (varint_read w h hB)
  have e:s.int B m=((s.num B).1.fail 2 s.p,0):=by unfold Rs.int;rw[if_neg h0]
  rw[e]
  have d1:decide ((0:Int)≤m)=false:=decide_eq_false h0
  generalize s.num B=N at*
  obtain⟨s1,x⟩:=N
  dsimp only at*
  clear h e h0
  go_enter Tryz.func189,Tryz.ntmps189
  go_wp2_with fail
  refine HA.out.mono ?_
  rintro r w' ⟨rfl,rfl⟩
  go_wp2_with fail
  refine HN.out.mono ?_
  rintro r w1 ⟨rfl,hst⟩
  have HF:=hid (rd_fail w1 hst.1 2 s.p (by omega))
  have HST:=hid hst
  clear hst
  go_wp2_with fail
  refine HF.out.mono ?_
  rintro r w2 ⟨rfl,hst2⟩
  have HST2:=hid hst2
  clear hst2
  go_wp2
  go_ret
  exact⟨rfl,RdStep.trans HST.out.2 HST2.out⟩
theorem token_head(w:World){g:Nat}{B:List UInt8}{a:Option Addr}{s:Rs}(h:RdAt w g B a s)(hB:B.length≤1000000000000):Calls Tryz.prog 394 #[.pointer (some ⟨g,0,none⟩)] w fun r w'=>r=.returned (.tuple #[.bool (s.head B).2.1,.int .i64 ((s.head B).2.2:Int)])∧RdStep w g B a (s.head B).1 w':=by
 have HA:=hid (rd_at w h)
 have HN:=hid (varint_read w h hB)
 have hsm:=Rs.num_small (B:=B) (s:=s)
 unfold Rs.head
 generalize s.num B=N at*
 obtain⟨s1,x⟩:=N
 dsimp only at*
 clear h
 by_cases hk:s1.k=0
 ·rw[if_pos hk]
  by_cases h2:x%2=1
  ·have d2:(((x:Int)%2)==1)=true:=by rw[beq_iff_eq];omega
   rw[if_pos h2]
   by_cases hl:1048572<x/2
   ·have d3:decide ((1048572:Int)<(x:Int)/2)=true:=decide_eq_true (by omega)
    rw[if_pos hl]
    have dk:decide (s1.k=0)=true:=decide_eq_true hk
    clear hk h2 hl
    go_enter Tryz.func394,Tryz.ntmps394
    go_wp2_with fail
    refine HA.out.mono ?_
    rintro r w' ⟨rfl,rfl⟩
    go_wp2_with fail
    refine HN.out.mono ?_
    rintro r w1 ⟨rfl,hst⟩
    have HG:=hid (rd_good w1 hst.1)
    rw[dk] at HG
    have HST:=hid hst
    clear hst dk
    go_wp2_with fail
    refine HG.out.mono ?_
    rintro r w2 ⟨rfl,hb2⟩
    have HF:=hid (rd_fail w2 (HST.out.1.later hb2) 2 s.p (by omega))
    go_wp2_with fail
    refine HF.out.mono ?_
    rintro r w3 ⟨rfl,hst3⟩
    have HST3:=hid hst3
    clear hst3
    go_wp2
    go_ret2
    exact⟨rfl,RdStep.trans (HST.out.then hb2).2 HST3.out⟩
   ·have d3:decide ((1048572:Int)<(x:Int)/2)=false:=decide_eq_false (by omega)
    rw[if_neg hl]
    have dk:decide (s1.k=0)=true:=decide_eq_true hk
    clear hk h2
    go_enter Tryz.func394,Tryz.ntmps394
    go_wp2_with fail
    refine HA.out.mono ?_
    rintro r w' ⟨rfl,rfl⟩
    go_wp2_with fail
    refine HN.out.mono ?_
    rintro r w1 ⟨rfl,hst⟩
    have HG:=hid (rd_good w1 hst.1)
    rw[dk] at HG
    have HST:=hid hst
    clear hst dk
    go_wp2_with fail
    refine HG.out.mono ?_
    rintro r w2 ⟨rfl,hb2⟩
    go_wp2
    go_ret2
    exact⟨by simp,HST.out.then hb2⟩
  ·have d2:(((x:Int)%2)==1)=false:=by rw[beq_eq_false_iff_ne];omega
   rw[if_neg h2]
   by_cases hl:1048575<x/2
   ·have d3:decide ((1048575:Int)<(x:Int)/2)=true:=decide_eq_true (by omega)
    rw[if_pos hl]
    have dk:decide (s1.k=0)=true:=decide_eq_true hk
    clear hk h2 hl
    go_enter Tryz.func394,Tryz.ntmps394
    go_wp2_with fail
    refine HA.out.mono ?_
    rintro r w' ⟨rfl,rfl⟩
    go_wp2_with fail
    refine HN.out.mono ?_
    rintro r w1 ⟨rfl,hst⟩
    have HG:=hid (rd_good w1 hst.1)
    rw[dk] at HG
    have HST:=hid hst
    clear hst dk
    go_wp2_with fail
    refine HG.out.mono ?_
    rintro r w2 ⟨rfl,hb2⟩
    have HF:=hid (rd_fail w2 (HST.out.1.later hb2) 2 s.p (by omega))
    go_wp2_with fail
    refine HF.out.mono ?_
    rintro r w3 ⟨rfl,hst3⟩
    have HST3:=hid hst3
    clear hst3
    go_wp2
    go_ret2
    exact⟨rfl,RdStep.trans (HST.out.then hb2).2 HST3.out⟩
   ·have d3:decide ((1048575:Int)<(x:Int)/2)=false:=decide_eq_false (by omega)
    rw[if_neg hl]
    have dk:decide (s1.k=0)=true:=decide_eq_true hk
    clear hk h2
    go_enter Tryz.func394,Tryz.ntmps394
    go_wp2_with fail
    refine HA.out.mono ?_
    rintro r w' ⟨rfl,rfl⟩
    go_wp2_with fail
    refine HN.out.mono ?_
    rintro r w1 ⟨rfl,hst⟩
    have HG:=hid (rd_good w1 hst.1)
    rw[dk] at HG
    have HST:=hid hst
    clear hst dk
    go_wp2_with fail
    refine HG.out.mono ?_
    rintro r w2 ⟨rfl,hb2⟩
    go_wp2
    go_ret2
    exact⟨by simp,HST.out.then hb2⟩
 ·rw[if_neg hk]
  have dk:decide (s1.k=0)=false:=decide_eq_false hk
  clear hk
  go_enter Tryz.func394,Tryz.ntmps394
  go_wp2_with fail
  refine HA.out.mono ?_
  rintro r w' ⟨rfl,rfl⟩
  go_wp2_with fail
  refine HN.out.mono ?_
  rintro r w1 ⟨rfl,hst⟩
  have HG:=hid (rd_good w1 hst.1)
  rw[dk] at HG
  have HST:=hid hst
  clear hst dk
  go_wp2_with fail
  refine HG.out.mono ?_
  rintro r w2 ⟨rfl,hb2⟩
  go_wp2
  go_ret2
  exact⟨rfl,HST.out.then hb2⟩
theorem token_offset(w:World){g:Nat}{B:List UInt8}{a:Option Addr}{s:Rs}(h:RdAt w g B a s)(hB:B.length≤1000000000000):Calls Tryz.prog 395 #[.pointer (some ⟨g,0,none⟩)] w fun r w'=>r=.returned (.int .i64 ((s.offset B).2:Int))∧RdStep w g B a (s.offset B).1 w':=by
 have HA:=hid (rd_at w h)
 have HN:=hid (varint_read w h hB)
 have hsm:=Rs.num_small (B:=B) (s:=s)
 unfold Rs.offset
 dsimp only
 generalize s.num B=N at*
 obtain⟨s1,x⟩:=N
 dsimp only at*
 clear h
 by_cases hl:65536≤x
 ·have d1:decide ((65536:Int)≤(x:Int))=true:=decide_eq_true (by omega)
  have hnk:(s1.fail 10 s.p).k≠0:=by unfold Rs.fail;split<;>simp_all
  rw[if_pos hl,if_neg hnk]
  have dk:decide ((s1.fail 10 s.p).k=0)=false:=decide_eq_false hnk
  have HFF:=hid (fun (W:World) (h:RdAt W g B a s1)=>rd_fail W h 10 s.p (by omega))
  generalize s1.fail 10 s.p=s2 at*
  clear hl hnk
  go_enter Tryz.func395,Tryz.ntmps395
  go_wp2_with fail
  refine HA.out.mono ?_
  rintro r w' ⟨rfl,rfl⟩
  go_wp2_with fail
  refine HN.out.mono ?_
  rintro r w1 ⟨rfl,hst⟩
  have HF:=hid (HFF.out w1 hst.1)
  have HST:=hid hst
  clear hst
  go_wp2_with fail
  refine HF.out.mono ?_
  rintro r w2 ⟨rfl,hst2⟩
  have HG:=hid (rd_good w2 hst2.1)
  rw[dk] at HG
  have HST2:=hid hst2
  clear hst2 dk
  go_wp2_with fail
  refine HG.out.mono ?_
  rintro r w3 ⟨rfl,hb3⟩
  go_wp2
  go_ret
  exact⟨rfl,RdStep.trans HST.out.2 (HST2.out.then hb3)⟩
 ·have d1:decide ((65536:Int)≤(x:Int))=false:=decide_eq_false (by omega)
  rw[if_neg hl]
  by_cases hk:s1.k=0
  all_goals
   first | rw[if_pos hk] | rw[if_neg hk]
   first | have dk:decide (s1.k=0)=true:=decide_eq_true hk | have dk:decide (s1.k=0)=false:=decide_eq_false hk
   clear hk
   go_enter Tryz.func395,Tryz.ntmps395
   go_wp2_with fail
   refine HA.out.mono ?_
   rintro r w' ⟨rfl,rfl⟩
   go_wp2_with fail
   refine HN.out.mono ?_
   rintro r w1 ⟨rfl,hst⟩
   have HG:=hid (rd_good w1 hst.1)
   rw[dk] at HG
   have HST:=hid hst
   clear hst dk
   go_wp2_with fail
   refine HG.out.mono ?_
   rintro r w3 ⟨rfl,hb3⟩
   go_wp2
   go_ret
   exact⟨by first | rfl | simp,HST.out.then hb3⟩
def Rs.blob(B:List UInt8)(s:Rs)(m:Int):Rs × List UInt8:=(s.int B m).1.take B ((s.int B m).2:Int)
theorem blob_read(w:World){g:Nat}{B:List UInt8}{a:Option Addr}{s:Rs}(h:RdAt w g B a s)(hB:B.length≤1000000000000)(m:Int)(hm: -9223372036854775808≤m∧m≤9223372036854775807):Calls Tryz.prog 301 #[.pointer (some ⟨g,0,none⟩),.int .i64 m] w fun r w'=>∃v,r=.returned v∧rBytes.r (fun q=>w.heap.size≤q∧q<w'.heap.size) w' [v] (s.blob B m).2∧RdStep w g B a (s.blob B m).1 w':=by
 have HI:=hid (varint_int w h hB m hm)
 have hle:((s.int B m).2:Int)≤9223372036854775807:=by have:=Rs.int_le (B:=B) (s:=s) (m:=m);omega
 have hT:=hid (fun (W:World) (h:RdAt W g B a (s.int B m).1)=>rd_take W h ((s.int B m).2:Int) hle hB)
 unfold Rs.blob
 generalize (s.int B m).1.take B ((s.int B m).2:Int)=T at*
 generalize s.int B m=N at*
 obtain⟨s1,x⟩:=N
 obtain⟨s2,D⟩:=T
 dsimp only at*
 clear h
 go_enter Tryz.func301,Tryz.ntmps301
 go_wp2_with fail
 refine HI.out.mono ?_
 rintro r w1 ⟨rfl,hst⟩
 have HST:=hid hst
 have hs1:=hst.size
 have HT:=hid (hT.out w1 hst.1)
 clear hst
 go_wp2_with fail
 refine HT.out.mono ?_
 rintro r w2 ⟨v,rfl,hr,hst2⟩
 obtain⟨a1,c1,hv1,hr2,_⟩:=sl_form hr
 simp only[List.cons.injEq,and_true] at hv1
 subst hv1
 have HR:=hid hr2
 have HST2:=hid hst2
 clear hr hr2 hst2
 go_wp2
 go_ret
 exact⟨_,rfl,rBytes.mono HR.out fun q hq=>⟨by omega,hq.2⟩,RdStep.trans HST.out.2 HST2.out⟩
def againL(off:Nat):Nat→List UInt8→List UInt8
 | 0,out=>out
 | n+1,out=>againL off n (out++[out.getD (out.length-off) 0])
theorem againL_len(off:Nat):∀(n:Nat) (out:List UInt8),(againL off n out).length=out.length+n
 | 0,out=>rfl
 | n+1,out=>by simp only[againL,againL_len off n];simp;omega
def exStep(B:List UInt8)(bound:Int)(s:Rs)(out:List UInt8):Rs × List UInt8:=
 if bound-out.length<(s.head B).2.2 then ((s.head B).1.fail 11 s.p,out)
 else if (s.head B).2.1=false then (((s.head B).1.take B ((s.head B).2.2:Int)).1,out++((s.head B).1.take B ((s.head B).2.2:Int)).2)
 else
  if out.length<((s.head B).1.offset B).2 then (((s.head B).1.offset B).1.fail 10 (s.head B).1.p,out)
  else if ((s.head B).1.offset B).1.k=0 then (((s.head B).1.offset B).1,againL ((s.head B).1.offset B).2 (s.head B).2.2 out) else (((s.head B).1.offset B).1,out)
def exF(B:List UInt8)(bound:Int):Nat→Rs→List UInt8→Rs × List UInt8
 | 0,s,out=>(s,out)
 | f+1,s,out=>if s.p<B.length∧s.k=0 then exF B bound f (exStep B bound s out).1 (exStep B bound s out).2 else (s,out)
def exB(B:List UInt8)(bound:Int):List UInt8 × Int × Int:=
 if (exF B bound B.length ⟨0,0,0⟩ []).1.k=0 then ((exF B bound B.length ⟨0,0,0⟩ []).2,0,0) else ([],(exF B bound B.length ⟨0,0,0⟩ []).1.k,(exF B bound B.length ⟨0,0,0⟩ []).1.f)
theorem Rs.fail_k{s:Rs}{c at_:Int}(hc:c≠0):(s.fail c at_).k≠0:=by
 unfold Rs.fail;split
 ·exact hc
 ·assumption
theorem Rs.fail_p{s:Rs}{c at_:Int}:(s.fail c at_).p=s.p:=by unfold Rs.fail;split<;>rfl
theorem Rs.num_more{B:List UInt8}{s:Rs}(h:(s.num B).1.k=0):s.p<(s.num B).1.p∧s.k=0:=by
 unfold Rs.num at*
 split
 ·rename_i h0
  rw[if_pos h0] at h
  have:=(vget_used (B.drop s.p) 0 0).2.2.2.2 (by dsimp only at h;omega)
  dsimp only;omega
 ·rename_i h0;rw[if_neg h0] at h;exact absurd h h0
theorem Rs.head_more{B:List UInt8}{s:Rs}(h:(s.head B).1.k=0):s.p<(s.head B).1.p∧s.k=0∧(s.num B).1.k=0∧1≤(s.head B).2.2∧(s.head B).2.2≤1048576:=by
 unfold Rs.head at*
 by_cases h0:(s.num B).1.k=0
 ·have hm:=Rs.num_more h0
  rw[if_pos h0] at h ⊢
  by_cases h1:(s.num B).2%2=1
  ·rw[if_pos h1] at h ⊢
   by_cases h2:1048572<(s.num B).2/2
   ·rw[if_pos h2] at h;exact absurd h (Rs.fail_k (by omega))
   ·rw[if_neg h2];exact⟨hm.1,hm.2,h0,by dsimp only;omega,by dsimp only;omega⟩
  ·rw[if_neg h1] at h ⊢
   by_cases h2:1048575<(s.num B).2/2
   ·rw[if_pos h2] at h;exact absurd h (Rs.fail_k (by omega))
   ·rw[if_neg h2];exact⟨hm.1,hm.2,h0,by dsimp only;omega,by dsimp only;omega⟩
 ·rw[if_neg h0] at h;exact absurd h h0
theorem Rs.head_bad{B:List UInt8}{s:Rs}(h:(s.head B).1.k≠0):(s.head B).2.1=false∧(s.head B).2.2=0:=by
 unfold Rs.head at*
 by_cases h0:(s.num B).1.k=0
 ·rw[if_pos h0] at h ⊢
  by_cases h1:(s.num B).2%2=1
  ·rw[if_pos h1] at h ⊢
   by_cases h2:1048572<(s.num B).2/2
   ·rw[if_pos h2];exact⟨rfl,rfl⟩
   ·rw[if_neg h2] at h;exact absurd h0 h
  ·rw[if_neg h1] at h ⊢
   by_cases h2:1048575<(s.num B).2/2
   ·rw[if_pos h2];exact⟨rfl,rfl⟩
   ·rw[if_neg h2] at h;exact absurd h0 h
 ·rw[if_neg h0];exact⟨rfl,rfl⟩
theorem Rs.take_more{B:List UInt8}{s:Rs}{n:Int}(h:(s.take B n).1.k=0):s.p≤(s.take B n).1.p∧s.k=0∧(s.take B n).2.length=n.toNat:=by
 unfold Rs.take at*
 cases hk:(s.skip B.length n).1
 ·exact absurd h (Rs.skip_false hk).1
 ·have:=Rs.skip_true hk
  rw[this.2.2.2]
  refine⟨by dsimp only;omega,this.1,?_⟩
  simp;omega
theorem Rs.take_bad{B:List UInt8}{s:Rs}{n:Int}(h:(s.take B n).1.k≠0):(s.take B n).2=[]:=by
 unfold Rs.take at*
 cases hk:(s.skip B.length n).1
 ·simp
 ·have:=Rs.skip_true hk
  rw[this.2.2.2] at h;exact absurd rfl h
theorem Rs.offset_more{B:List UInt8}{s:Rs}(h:(s.offset B).1.k=0):s.p<(s.offset B).1.p∧s.k=0∧(s.num B).1.k=0∧(s.offset B).2=(s.num B).2+1∧(s.num B).2<65536:=by
 unfold Rs.offset at*
 dsimp only at*
 by_cases h1:65536≤(s.num B).2
 ·rw[if_pos h1] at h;exact absurd h (Rs.fail_k (by omega))
 ·rw[if_neg h1] at h ⊢
  have:=Rs.num_more h
  exact⟨this.1,this.2,h,by rw[if_pos h],by omega⟩
theorem Rs.num_of_bad{B:List UInt8}{s:Rs}(h:s.k≠0):s.num B=(s,0):=by unfold Rs.num;rw[if_neg h]
theorem Rs.skip_of_bad{L:Nat}{s:Rs}{n:Int}(h:s.k≠0):s.skip L n=(false,s):=by unfold Rs.skip;rw[if_neg h]
theorem Rs.fail_of_bad{s:Rs}{c a:Int}(h:s.k≠0):s.fail c a=s:=by unfold Rs.fail;rw[if_neg h]
theorem exStep_ok{B:List UInt8}{bound:Int}{s:Rs}{out:List UInt8}(h:s.ok B.length):(exStep B bound s out).1.ok B.length:=by
 unfold exStep
 split
 ·exact Rs.fail_ok (Rs.head_ok h) (by omega)
 ·split
  ·exact Rs.take_ok (Rs.head_ok h) _
  ·split
   ·exact Rs.fail_ok (Rs.offset_ok (Rs.head_ok h)) (by omega)
   ·split
    ·exact Rs.offset_ok (Rs.head_ok h)
    ·exact Rs.offset_ok (Rs.head_ok h)
theorem exStep_more{B:List UInt8}{bound:Int}{s:Rs}{out:List UInt8}(h:(exStep B bound s out).1.k=0):s.p<(exStep B bound s out).1.p∧((exStep B bound s out).2.length:Int)≤bound:=by
 unfold exStep at*
 by_cases h1:bound-out.length<(s.head B).2.2
 ·rw[if_pos h1] at h;exact absurd h (Rs.fail_k (by omega))
 ·rw[if_neg h1] at h ⊢
  by_cases h2:(s.head B).2.1=false
  ·rw[if_pos h2] at h ⊢
   have ht:=Rs.take_more h
   have hh:=Rs.head_more ht.2.1
   refine⟨by dsimp only;omega,?_⟩
   simp only[List.length_append,ht.2.2]
   omega
  ·rw[if_neg h2] at h ⊢
   by_cases h3:out.length<((s.head B).1.offset B).2
   ·rw[if_pos h3] at h;exact absurd h (Rs.fail_k (by omega))
   ·rw[if_neg h3] at h ⊢
    by_cases h4:((s.head B).1.offset B).1.k=0
    ·rw[if_pos h4]
     have ho:=Rs.offset_more h4
     have hh:=Rs.head_more ho.2.1
     refine⟨by dsimp only;omega,?_⟩
     simp only[againL_len];omega
    ·rw[if_neg h4] at h;exact absurd h h4
theorem exStep_len{B:List UInt8}{bound:Int}{s:Rs}{out:List UInt8}(h:(exStep B bound s out).1.k≠0):(exStep B bound s out).2=out:=by
 unfold exStep at*
 split
 ·rfl
 ·rename_i h1
  rw[if_neg h1] at h
  split
  ·rename_i h2
   rw[if_pos h2] at h
   rw[Rs.take_bad h];simp
  ·rename_i h2
   rw[if_neg h2] at h
   split
   ·rfl
   ·rename_i h3
    rw[if_neg h3] at h
    split
    ·rename_i h4
     rw[if_pos h4] at h;exact absurd h4 h
    ·rfl
theorem exF_step{B:List UInt8}{bound:Int}:∀(f:Nat) (s:Rs) (out:List UInt8),s.ok B.length→B.length≤s.p+f→s.p<B.length→s.k=0→exF B bound f s out=exF B bound (f-1) (exStep B bound s out).1 (exStep B bound s out).2
 | 0,s,out,_,h1,h2,_=>by omega
 | f+1,s,out,_,_,h2,h3=>by simp only[exF];rw[if_pos ⟨h2,h3⟩];rfl
theorem exF_stop{B:List UInt8}{bound:Int}:∀(f:Nat) (s:Rs) (out:List UInt8),¬(s.p<B.length∧s.k=0)→exF B bound f s out=(s,out)
 | 0,s,out,_=>rfl
 | f+1,s,out,h=>by simp only[exF];rw[if_neg h]
theorem exF_any{B:List UInt8}{bound:Int}:∀(f g:Nat) (s:Rs) (out:List UInt8),s.ok B.length→B.length≤s.p+f→B.length≤s.p+g→exF B bound f s out=exF B bound g s out
 | 0,g,s,out,h,h1,h2=>by rw[exF_stop g s out (by have:=h.le;omega)];rfl
 | f+1,0,s,out,h,h1,h2=>by rw[exF_stop (f+1) s out (by have:=h.le;omega)];rfl
 | f+1,g+1,s,out,h,h1,h2=>by
  simp only[exF]
  by_cases hc:s.p<B.length∧s.k=0
  ·rw[if_pos hc,if_pos hc]
   by_cases hk:(exStep B bound s out).1.k=0
   ·have:=(exStep_more hk).1
    exact exF_any f g _ _ (exStep_ok h) (by omega) (by omega)
   ·rw[exF_stop f _ _ (fun e=>hk e.2),exF_stop g _ _ (fun e=>hk e.2)]
  ·rw[if_neg hc,if_neg hc]
def exR(B:List UInt8)(bound:Int)(s:Rs)(out:List UInt8):Rs × List UInt8:=exF B bound (B.length-s.p) s out
theorem exR_go{B:List UInt8}{bound:Int}{s:Rs}{out:List UInt8}(h:s.ok B.length)(h1:s.p<B.length)(h2:s.k=0):exR B bound s out=exR B bound (exStep B bound s out).1 (exStep B bound s out).2:=by
 unfold exR
 rw[exF_step _ s out h (by omega) h1 h2]
 by_cases hk:(exStep B bound s out).1.k=0
 ·have:=(exStep_more hk).1
  exact exF_any _ _ _ _ (exStep_ok h) (by omega) (by omega)
 ·rw[exF_stop _ _ _ (fun e=>hk e.2),exF_stop _ _ _ (fun e=>hk e.2)]
theorem exR_stop{B:List UInt8}{bound:Int}{s:Rs}{out:List UInt8}(h:¬(s.p<B.length∧s.k=0)):exR B bound s out=(s,out):=exF_stop _ _ _ h
theorem exB_is(B:List UInt8)(bound:Int):exB B bound=if (exR B bound ⟨0,0,0⟩ []).1.k=0 then ((exR B bound ⟨0,0,0⟩ []).2,0,0) else ([],(exR B bound ⟨0,0,0⟩ []).1.k,(exR B bound ⟨0,0,0⟩ []).1.f):=rfl
theorem byteCells_one1(x:UInt8):∀u∈[Value.int .u8 (x.toNat:Int)],u.oneCell'=true:=by
 intro u hu;simp at hu;subst hu;rfl
theorem byteCells_snoc(l:List UInt8)(x:UInt8):byteCells l++[Value.int .u8 (x.toNat:Int)]=byteCells (l++[x]):=by simp[byteCells]
theorem expand_again(w:World){base:Nat}{a:Option Addr}{c:Nat}(out:List UInt8)(hown:w.ownsRow base 5 1 (.slice a out.length c) out.length (byteCells out))(hbase:base≤w.heap.size)(off n:Nat)(h1:1≤off)(h2:off≤out.length)(hn:out.length+n≤1000000000000):
  Calls Tryz.prog 396 #[.slice a out.length c,.int .i64 (off:Int),.int .i64 (n:Int)] w fun r w'=>∃a' c',r=.returned (.slice a' (out.length+n) c')∧w'.ownsRow base 5 1 (.slice a' (out.length+n) c') (out.length+n) (byteCells (againL off n out))∧Below base w w':=by
 obtain⟨i0,hi,hz0,hz1,hz2⟩:=info_parts info8
 have HO:=hid hown
 clear hown
 go_enter Tryz.func396,Tryz.ntmps396
 go_wp2_with fail
 go_loopw [0,8] (fun o i wr=>∃(k:Nat) (J:List UInt8) (aJ:Option Addr) (cJ:Nat),k≤n∧i=.int .i64 k∧o=.slice aJ J.length cJ∧wr.ownsRow base 5 1 (.slice aJ J.length cJ) J.length (byteCells J)∧Hid (againL off n out=againL off (n-k) J)∧Hid (J.length=out.length+k)∧Below base w wr∧base≤wr.heap.size) (fun _ i _=>n-(intOf i).toNat)
 case atStart=>exact ⟨0,out,a,c,Nat.zero_le _,rfl,rfl,HO.out,hid rfl,hid rfl,Below.refl _ _,hbase⟩
 case round=>
  obtain⟨k,J,aJ,cJ,hk,rfl,rfl,ho,hJ,hln,hb,hbs⟩:=hrel
  have HJO:=hid ho
  rcases Nat.lt_or_ge k n with hlt | hge
  ·have d1:decide ((k:Int)<(n:Int))=true:=decide_eq_true (by omega)
   have d1':decide (k<n)=true:=decide_eq_true hlt
   have hml:off≤J.length:=by have:=hln.out;omega
   have hJm:J.length+1≤1000000000000:=by have:=hln.out;omega
   have hst:Hid (againL off (n-k) J=againL off (n-(k+1)) (J++[J.getD (J.length-off) 0])):=hid (by rw[show n-k=(n-(k+1))+1 by omega];rfl)
   have hgd:J.getD (J.length-off) 0=J[J.length-off]'(by omega):=by rw[List.getD_eq_getElem?_getD,List.getElem?_eq_getElem (by omega)];rfl
   rw[hgd] at hst
   obtain⟨gb,ob,hA,hgb,hc⟩:=byte_at (own_bytes rfl ho) (i:=J.length-off) (by omega)
   subst hA
   obtain⟨m,hm⟩:∃m,m=J.length-off:=⟨_,rfl⟩
   have e1:(J.length:Int)-(off:Int)=(m:Int):=by omega
   generalize J[J.length-off]'(by omega)=x at*
   rw[←hm] at hc
   have i1:(m:Int)<(J.length:Int):=by omega
   have i2:(0:Int)≤(m:Int):=by omega
   clear ho hgd hm
   go_wp2_with (at_builtin;go_loud (refine wpList_append_src rfl _ _ _ rfl base 5 i0 (.int .u8 0) 1 1 Tryz.underlying22 hi hz0 hz1 hz2 rfl (by decide) (.slice (some ⟨gb,ob,none⟩) J.length cJ) J.length (byteCells J) rfl (own_below HJO.out (by (repeat (first | exact Below.refl _ _ | assumption | (refine below_alloc ?_ _) | (refine Below.setCell ?_ (by first | omega | (simp;done) | (simp;omega)) _) | (refine Below.drew ?_) | (refine below_drewN ?_ _) | (refine below_then (by assumption) ?_))))) (some ⟨wr.heap.size,0,none⟩) 1 1 [.int .u8 (x.toNat:Int)] rfl (src_new1 wr 5 _ rfl rfl rfl) (byteCells_one1 x) (by simp only[maxLen];omega) (by omega) (by simp;omega) ?_;intro v' w3 hown3 hgrow3 hat3;obtain⟨a3,c3,rfl⟩:=own_form hown3;have HO3:=hid hown3;have HG3:=hid hgrow3;clear hown3 hgrow3 hat3))
   have ho3:=HO3.out
   rw[byteCells_snoc,show J.length+1=(J++[x]).length by simp] at ho3
   have hb3:Below base wr w3:=(Below.grown (Below.refl _ _) HG3.out (by simp;omega) (fun g e=>(HJO.out.lt g e).1)) |>(fun h=>(below_alloc (Below.refl _ _) _ |>.mono hbs).trans h)
   have HO4:=hid ho3
   have hs3:=hb3.size
   clear ho3 hc
   go_roundw
   case rel=>exact ⟨k+1,J++[x],a3,c3,by omega,by go_num,by simp,HO4.out,hid (hJ.out.trans hst.out),hid (by simp;have:=hln.out;omega),hb.trans hb3,by omega⟩
   case measure=>simp [intOf];omega
  ·obtain rfl:k=n:=by omega
   have d1:decide ((k:Int)<(k:Int))=false:=decide_eq_false (by omega)
   have hfin:Hid (againL off k out=J):=hid (by rw[hJ.out,Nat.sub_self];rfl)
   clear ho
   go_wp2
   go_ret
   have hl:J.length=out.length+k:=hln.out
   rw[hfin.out,←hl]
   exact⟨_,_,rfl,HJO.out,hb⟩
end Go.Proofs.YtmioakocnebceaaGreat
